/-
  Pg, part 10: a plainer form of the code, whose tables are looked up once, and its predicates.
-/
import Derived.Test.YtcjlpklgnknpgaaGreatDoorPgExec
import Derived.Laws.BytesArg
set_option linter.unusedVariables false
set_option linter.unusedSimpArgs false
set_option linter.unusedSectionVars false
namespace Go.Proofs.YtcjlpklgnknpgaaGreatDoor.Pg
open Go
section
inductive X where
 | r (t : Nat)
 | k (x : AV)
 | g (i : Nat)
def X.of : Operand → Option X
 | .tmp t => some (.r t)
 | .const x => (ofV 64 x).map .k
 | .global i => some (.g i)
 | .func f => some (.k (.fn (.func f) [] []))
def X.ev (G : Nat → Option (List AV)) (fr : Fr) : X → Option AV
 | .r t => some (fr.get t)
 | .k x => some x
 | .g i => (G i).map .cptr
def X.evs (G : Nat → Option (List AV)) (fr : Fr) : List X → Option (List AV)
 | [] => some []
 | x :: xs => match x.ev G fr, X.evs G fr xs with
  | some y, some ys => some (y :: ys)
  | _, _ => none
def X.ofs : List Operand → Option (List X)
 | [] => some []
 | x :: xs => match X.of x, X.ofs xs with
  | some y, some ys => some (y :: ys)
  | _, _ => none
def X.opt : Option Operand → Option (Option X)
 | none => some none
 | some x => (X.of x).map some
def X.evo (G : Nat → Option (List AV)) (fr : Fr) : Option X → Option (Option AV)
 | none => some none
 | some x => (x.ev G fr).map some
theorem X.of_ev {G : Nat → Option (List AV)} {fr : Fr} {o : Operand} {x : X} (e : X.of o = some x) : aev G fr o = x.ev G fr := by
 cases o with
 | tmp t => simp only [X.of, Option.some.injEq] at e; subst e; rfl
 | const v =>
  simp only [X.of] at e
  cases h : ofV 64 v with
  | none => rw [h] at e; simp at e
  | some y => rw [h] at e; simp only [Option.map_some, Option.some.injEq] at e; subst e; simp only [aev, h, X.ev]
 | global i => simp only [X.of, Option.some.injEq] at e; subst e; rfl
 | func f => simp only [X.of, Option.some.injEq] at e; subst e; rfl
theorem X.ofs_evs {G : Nat → Option (List AV)} {fr : Fr} : ∀ {os : List Operand} {xs : List X}, X.ofs os = some xs → aevs G fr os = X.evs G fr xs
 | [], xs, e => by simp only [X.ofs, Option.some.injEq] at e; subst e; rfl
 | o :: os, xs, e => by
  simp only [X.ofs] at e
  cases h1 : X.of o with
  | none => rw [h1] at e; simp at e
  | some y =>
   cases h2 : X.ofs os with
   | none => rw [h1, h2] at e; simp at e
   | some ys =>
    rw [h1, h2] at e; simp only [Option.some.injEq] at e; subst e
    simp only [aevs, X.evs, X.of_ev h1, X.ofs_evs h2]
    rfl
theorem X.opt_ev {G : Nat → Option (List AV)} {fr : Fr} {o : Option Operand} {x : Option X} (e : X.opt o = some x) : aopt G fr o = X.evo G fr x := by
 cases o with
 | none => simp only [X.opt, Option.some.injEq] at e; subst e; rfl
 | some o =>
  simp only [X.opt] at e
  cases h : X.of o with
  | none => rw [h] at e; simp at e
  | some y => rw [h] at e; simp only [Option.map_some, Option.some.injEq] at e; subst e; simp only [aopt, X.evo, X.of_ev h]
def X.parts (place : Nat → Option (Nat × Nat)) : List (Nat × Operand) → Option (List (Nat × Nat × X))
 | [] => some []
 | (i, x) :: xs => match place i, X.of x, X.parts place xs with
  | some (off, size), some y, some ys => some ((off, size, y) :: ys)
  | _, _, _ => none
def ifill (G : Nat → Option (List AV)) (fr : Fr) (cells : List AV) : List (Nat × Nat × X) → Option (List AV)
 | [] => some cells
 | (off, size, x) :: r => match x.ev G fr with
  | some y => if y.known = true ∧ y.cells.length = size ∧ off + y.cells.length ≤ cells.length then ifill G fr (splice cells off y.cells) r else none
  | none => none
theorem ifill_eq {G : Nat → Option (List AV)} {fr : Fr} {place : Nat → Option (Nat × Nat)} : ∀ {ps : List (Nat × Operand)} {qs : List (Nat × Nat × X)} {cells cs : List AV}, X.parts place ps = some qs → ifill G fr cells qs = some cs →
  ∃ rs, aparts G fr ps = some rs ∧ afill place cells rs = some cs
 | [], qs, cells, cs, e, h => by simp only [X.parts, Option.some.injEq] at e; subst e; simp only [ifill, Option.some.injEq] at h; subst h; exact ⟨[], rfl, rfl⟩
 | (i, x) :: ps, qs, cells, cs, e, h => by
  simp only [X.parts] at e
  cases h1 : place i with
  | none => rw [h1] at e; simp at e
  | some os =>
   obtain ⟨off, size⟩ := os
   cases h2 : X.of x with
   | none => rw [h1, h2] at e; simp at e
   | some y =>
    cases h3 : X.parts place ps with
    | none => rw [h1, h2, h3] at e; simp at e
    | some ys =>
     rw [h1, h2, h3] at e; simp only [Option.some.injEq] at e; subst e
     simp only [ifill] at h
     cases h4 : y.ev G fr with
     | none => rw [h4] at h; simp at h
     | some v =>
      rw [h4] at h
      simp only at h
      split at h
      ·rename_i hc
       obtain ⟨rs, hr, hf⟩ := ifill_eq h3 h
       refine ⟨(i, v) :: rs, by simp only [aparts, X.of_ev h2, h4, hr], ?_⟩
       simp only [afill, h1]
       rw [if_pos hc]; exact hf
      ·cases h
inductive I where
 | gen (o : Oper)
 | mov (x : X)
 | pick (c a b : X)
 | bin (op : BinOp) (x y : X)
 | not (x : X)
 | cvt (k : IntKind) (x : X)
 | fadr (off : Nat) (x : X)
 | fld (row : Option Nat) (off : Nat) (x : X)
 | iasl (es : Nat) (x i : X)
 | iaar (n es : Nat) (x i : X)
 | idxs (x i : X)
 | slc (es : Nat) (x : X) (lo hi : Option X)
 | slcs (x : X) (lo hi : Option X)
 | ext (x : X) (i : Nat)
 | mki (t : TypeId) (x : X)
 | mkf (f : Fn) (first cap : List X)
 | load (row : Option Nat) (x : X)
 | lenl (x : X)
 | lens (x : X)
 | box (t : TypeId) (x : X)
 | alloc (t : TypeId) (cs : List AV)
 | build (z : List AV) (ps : List (Nat × Nat × X))
 | bsl (n es : Nat) (z : List AV) (ps : List (Nat × Nat × X))
 | mkmap
 | lookup (kind : TypeDesc) (zero : AV) (ok : Bool) (m k : X)
 | mapup (kind : TypeDesc) (m k x : X)
 | store (size : Nat) (p x : X)
 | app (es bytes : Nat) (a b : X)
 | call (f : FuncId) (xs : List X)
 | callv (f : X) (xs : List X)
 | inv (m : String) (r : X) (xs : List X)
 | nchk (x : X)
 | beq (ne : Bool) (x y : X)
 | beqA (ne : Bool) (x y : X)
 | mx (mn : Bool) (x y : X)
 | mks (e : TypeId) (es bytes : Nat) (z : List AV) (l c : X)
 | pan (x : X)
 | aidx (row : Option Nat) (n es : Nat) (x i : X)
 | slcp (n es : Nat) (x : X) (lo hi : Option X)
 | tas (t : TypeId) (z : AV) (ok : Bool) (x : X)
 | inil (ne : Bool) (x : X)
def wv {α : Type} (o : Option α) (k : α → Prop) : Prop :=
 match o with
 | some y => k y
 | none => False
@[simp] theorem wv_some {α : Type} (y : α) (k : α → Prop) : wv (some y) k = k y := rfl
theorem wv_ex {α : Type} {o : Option α} {k : α → Prop} (h : wv o k) : ∃ y, o = some y ∧ k y := by
 cases o with
 | none => exact h.elim
 | some y => exact ⟨y, rfl, h⟩
def wb (t : Bool) (A B : Prop) : Prop := (t = true → A) ∧ (t = false → B)
@[simp] theorem wb_true (A B : Prop) : wb true A B = A := by simp [wb]
@[simp] theorem wb_false (A B : Prop) : wb false A B = B := by simp [wb]
def ipr : AV → Option (Int × Int)
 | .agg [.v (.int .i64 a), .v (.int .i64 b)] => some (a, b)
 | _ => none
def ibool : AV → Option Bool
 | .v (.bool t) => some t
 | _ => none
def ibin (op : BinOp) : AV → AV → Option AV
 | .v (.int k a), .v (.int k' b) => match op with
  | .shl | .shr => if 0 ≤ b then some (.v (.int k (match op with | .shl => k.wrap (a * 2 ^ min b.toNat k.bits) | _ => a.fdiv (2 ^ min b.toNat k.bits)))) else none
  | _ => if k = k' then match op with
   | .add => some (.v (.int k (k.wrap (a + b))))
   | .sub => some (.v (.int k (k.wrap (a - b))))
   | .mul => some (.v (.int k (k.wrap (a * b))))
   | .quo => if b = 0 then none else some (.v (.int k (k.wrap (a.tdiv b))))
   | .rem => if b = 0 then none else some (.v (.int k (a.tmod b)))
   | .and => some (.v (.int k (k.wrap (BitVec.ofInt k.bits a &&& BitVec.ofInt k.bits b).toNat)))
   | .or => some (.v (.int k (k.wrap (BitVec.ofInt k.bits a ||| BitVec.ofInt k.bits b).toNat)))
   | .xor => some (.v (.int k (k.wrap (BitVec.ofInt k.bits a ^^^ BitVec.ofInt k.bits b).toNat)))
   | .andNot => some (.v (.int k (k.wrap (BitVec.ofInt k.bits a &&& ~~~BitVec.ofInt k.bits b).toNat)))
   | .eql => some (.v (.bool (a == b)))
   | .neq => some (.v (.bool (a != b)))
   | .lss => some (.v (.bool (decide (a < b))))
   | .leq => some (.v (.bool (decide (a ≤ b))))
   | .gtr => some (.v (.bool (decide (a > b))))
   | .geq => some (.v (.bool (decide (a ≥ b))))
   | _ => none
   else none
 | .v (.string a), .v (.string b) => match op with
  | .add => if a.size + b.size ≤ 9223372036854775807 then some (.v (.string (a ++ b))) else none
  | .eql => some (.v (.bool (decide (a = b))))
  | .neq => some (.v (.bool (!decide (a = b))))
  | _ => none
 | _, _ => none
def icut (row : Option Nat) (cs : List AV) (off : Nat) : Option AV :=
 match row with
 | some n => if ((cs.drop off).take n).length = n then some (.agg ((cs.drop off).take n)) else none
 | none => cs[off]?
def iload (C : Nat → Option AObj) (row : Option Nat) : AV → Option AV
 | .ptr o off => match C o with
  | some (.cells _ cs) => icut row cs off
  | _ => none
 | .cptr cs => icut row cs 0
 | _ => none
def ifadr (off : Nat) : AV → Option AV
 | .ptr o o1 => some (.ptr o (o1 + off))
 | .cptr cs => some (.cptr (cs.drop off))
 | _ => none
def ifld (row : Option Nat) (off : Nat) : AV → Option AV
 | .agg cs => icut row cs off
 | _ => none
def iiasl (es : Nat) : AV → AV → Option AV
 | .sl _ n cs, .v (.int _ i) => if 0 ≤ i ∧ i < n ∧ i.toNat * es < cs.length then some (.cptr (cs.drop (i.toNat * es))) else none
 | .arr o off n, .v (.int _ i) => if 0 ≤ i ∧ i < n then some (.ptr o (off + i.toNat * es)) else none
 | _, _ => none
def iiaar (n es : Nat) : AV → AV → Option AV
 | .ptr o off, .v (.int _ i) => if 0 ≤ i ∧ i < n then some (.ptr o (off + i.toNat * es)) else none
 | .cptr cs, .v (.int _ i) => if 0 ≤ i ∧ i < n then some (.cptr (cs.drop (i.toNat * es))) else none
 | _, _ => none
def iidxs : AV → AV → Option AV
 | .v (.string s), .v (.int _ i) => if 0 ≤ i then (s[i.toNat]?).map fun b => .v (.int .u8 b.toNat) else none
 | _, _ => none
def islc (es : Nat) (lo hi : Option AV) : AV → Option AV
 | .sl tok n cs => match abound n hi n with
  | some h1 => match abound h1 lo 0 with
   | some l => if cs.length = n * es then match tok with
     | .nil => some (.sl .nil 0 [])
     | .none => some (.sl .none (h1 - l) ((cs.drop (l * es)).take ((h1 - l) * es)))
     | .own t k s => if h1 = n ∧ l < n ∧ s = es then some (.sl (.own t (k + l) s) (n - l) (cs.drop (l * es))) else some (.sl .none (h1 - l) ((cs.drop (l * es)).take ((h1 - l) * es)))
    else none
   | none => none
  | none => none
 | .arr o off n => match abound n hi n with
  | some h1 => match abound h1 lo 0 with
   | some l => if l < h1 then some (.arr o (off + l * es) (h1 - l)) else some (.sl .none 0 [])
   | none => none
  | none => none
 | _ => none
def islcs (lo hi : Option AV) : AV → Option AV
 | .v (.string s) => match abound s.size hi s.size with
  | some h1 => match abound h1 lo 0 with
   | some l => some (.v (.string (s.extract l h1)))
   | none => none
  | none => none
 | _ => none
def ilenl : AV → Option AV
 | .sl _ n _ => some (.v (.int .i64 n))
 | .arr _ _ n => some (.v (.int .i64 n))
 | _ => none
def ilens : AV → Option AV
 | .v (.string s) => some (.v (.int .i64 s.size))
 | _ => none
def ilookup (C : Nat → Option AObj) (kind : TypeDesc) (zero : AV) (ok : Bool) (m k : AV) : Option AV :=
 match mapOf C m, lit k with
 | some es, some kv => match afind kind kv es 0 with
  | some (some (_, x)) => some (if ok then .tup [x, .v (.bool true)] else x)
  | some none => some (if ok then .tup [zero, .v (.bool false)] else zero)
  | none => none
 | _, _ => none
def imapup (h : AH) (kind : TypeDesc) (m k x : AV) : Option AH :=
 match m, lit k with
 | .mp o, some kv => match h.get o with
  | some (.map es) => match afind kind kv es 0 with
   | some (some (j, _)) => some (h.set o (.map (es.set j (kv, x))))
   | some none => some (h.set o (.map (es ++ [(kv, x)])))
   | none => none
  | _ => none
 | _, _ => none
def istore (h : AH) (size : Nat) : AV → AV → Option AH
 | .ptr o off, x => match h.get o with
  | some (.cells e cs) => if x.cells.length = size ∧ off + x.cells.length ≤ cs.length ∧ x.cells.all AV.one = true then some (h.set o (.cells e (splice cs off x.cells))) else none
  | _ => none
 | _, _ => none
def iapp (h : AH) (es bytes : Nat) : AV → AV → Option (AV × AH)
 | .sl tok n cs, .sl tok' m cs' =>
  if cs.length = n * es ∧ cs'.length = m * es ∧ cs'.all AV.one = true ∧ (n + m) * bytes ≤ 140737488355328 ∧ n + m ≤ 9223372036854775807 then
   if m = 0 then some (.sl tok n cs, h)
   else match tok with
    | .nil => some (.sl (.own h.tnext 0 es) m cs', h.pushTok m)
    | .own tk k s => if h.tok tk = some (k + n) ∧ s = es then some (.sl (.own tk k s) (n + m) (cs ++ cs'), h.setTok tk (k + n + m)) else none
    | .none => none
  else none
 | _, _ => none
def iaidx (row : Option Nat) (n es : Nat) : AV → AV → Option AV
 | .agg cs, .v (.int _ i) => if 0 ≤ i ∧ i < n then icut row cs (i.toNat * es) else none
 | _, _ => none
def islcp (n es : Nat) (lo hi : Option AV) : AV → Option AV
 | .ptr o off => match abound n hi n with
  | some h1 => match abound h1 lo 0 with
   | some l => if l < h1 then some (.arr o (off + l * es) (h1 - l)) else some (.sl .none 0 [])
   | none => none
  | none => none
 | _ => none
def imks (h : AH) (e : TypeId) (es bytes : Nat) (z : List AV) (l c : Int) : Option (AV × AH) :=
 if 0 ≤ l ∧ l ≤ c ∧ (bytes : Int) * c ≤ 281474976710656 ∧ c ≤ 9223372036854775807 then
  if l = c then some (.arr h.next 0 l.toNat, h.push (.cells e (acycle z (l.toNat * es))))
  else if l = 0 then some (.sl (.own h.tnext 0 es) 0 [], h.pushTok 0) else none
 else none
def itas (t : TypeId) (z : AV) (ok : Bool) : AV → Option AV
 | .ifc t' y => if t' = t then some (if ok then .tup [y, .v (.bool true)] else y) else if ok then some (.tup [z, .v (.bool false)]) else none
 | .v .nilIface => if ok then some (.tup [z, .v (.bool false)]) else none
 | _ => none
def iinil (ne : Bool) : AV → Option AV
 | .ifc _ _ => some (.v (.bool ne))
 | .v .nilIface => some (.v (.bool !ne))
 | _ => none
def u8s : List AV → Option (List Int)
 | [] => some []
 | .v (.int .u8 n) :: r => (u8s r).map (n :: ·)
 | _ => none
def b2s (P : Program) (o : Oper) : Option X :=
 match o.op with
 | .convert s d x => match P.underlying s, P.underlying d with
  | some (.slice e), some .string => match P.underlying e with
   | some (.int .u8) => X.of x
   | _ => none
  | _, _ => none
 | _ => none
def nilT (P : Program) (o : Oper) : Option (Bool × X) :=
 match o.op with
 | .binOp op t x (.const (.slice none 0 0)) _ => match P.underlying t, op with
  | some (.slice _), .eql => (X.of x).map fun x => (false, x)
  | some (.slice _), .neq => (X.of x).map fun x => (true, x)
  | _, _ => none
 | _ => none
def NILQ (P : Program) (G : Nat → Option (List AV)) (fr : Fr) (o : Oper) (K : AV → Prop) : Prop := ∃ ne x n cs, nilT P o = some (ne, x) ∧ x.ev G fr = some (.sl .none n cs) ∧ ∀ b, (b = true → cs = []) → K (.v (.bool (if ne then !b else b)))
def ib2s (C : Nat → Option AObj) : AV → Option ByteArray
 | .arr o off n => match C o with
  | some (.cells _ cs) => if off + n ≤ cs.length then (u8s ((cs.drop off).take n)).map strOfNums else none
  | _ => none
 | _ => none
def istep (P : Program) (G : Nat → Option (List AV)) (fr : Fr) (h : AH) : I → (AOut → AH → Prop) → Prop
 | .gen o, K => (wv (astep P G (fun _ _ _ => none) fr h o) fun p => K p.1 p.2) ∨ (∃ x v b, b2s P o = some x ∧ x.ev G fr = some v ∧ ib2s h.get v = some b ∧ K (.ret (.v (.string b))) h) ∨ NILQ P G fr o fun y => K (.ret y) h
 | .mov x, K => wv (x.ev G fr) fun y => K (.ret y) h
 | .pick c a b, K => wv (c.ev G fr) fun c => wv (ibool c) fun t => wb t (wv (a.ev G fr) fun y => K (.ret y) h) (wv (b.ev G fr) fun y => K (.ret y) h)
 | .bin op x y, K => wv (x.ev G fr) fun x => wv (y.ev G fr) fun y => wv (ibin op x y) fun z => K (.ret z) h
 | .not x, K => wv (x.ev G fr) fun x => wv (ibool x) fun t => K (.ret (.v (.bool !t))) h
 | .cvt k x, K => wv (x.ev G fr) fun x => wv (aint x) fun p => K (.ret (.v (.int k (k.wrap p.2)))) h
 | .fadr off x, K => wv (x.ev G fr) fun x => wv (ifadr off x) fun z => K (.ret z) h
 | .fld row off x, K => wv (x.ev G fr) fun x => wv (ifld row off x) fun z => K (.ret z) h
 | .iasl es x i, K => wv (x.ev G fr) fun x => wv (i.ev G fr) fun i => wv (iiasl es x i) fun z => K (.ret z) h
 | .iaar n es x i, K => wv (x.ev G fr) fun x => wv (i.ev G fr) fun i => wv (iiaar n es x i) fun z => K (.ret z) h
 | .idxs x i, K => wv (x.ev G fr) fun x => wv (i.ev G fr) fun i => wv (iidxs x i) fun z => K (.ret z) h
 | .slc es x lo hi, K => wv (x.ev G fr) fun x => wv (X.evo G fr lo) fun lo => wv (X.evo G fr hi) fun hi => wv (islc es lo hi x) fun z => K (.ret z) h
 | .slcs x lo hi, K => wv (x.ev G fr) fun x => wv (X.evo G fr lo) fun lo => wv (X.evo G fr hi) fun hi => wv (islcs lo hi x) fun z => K (.ret z) h
 | .ext x i, K => wv (x.ev G fr) fun x => match x with
  | .tup vs => wv (vs[i]?) fun z => K (.ret z) h
  | _ => False
 | .mki t x, K => wv (x.ev G fr) fun x => K (.ret (.ifc t x)) h
 | .mkf f first cap, K => wv (X.evs G fr first) fun a => wv (X.evs G fr cap) fun b => K (.ret (.fn f a b)) h
 | .load row x, K => wv (x.ev G fr) fun x => wv (iload h.get row x) fun z => K (.ret z) h
 | .lenl x, K => wv (x.ev G fr) fun x => wv (ilenl x) fun z => K (.ret z) h
 | .lens x, K => wv (x.ev G fr) fun x => wv (ilens x) fun z => K (.ret z) h
 | .box t x, K => wv (x.ev G fr) fun x => x.known = true ∧ K (.ret (.ptr h.next 0)) (h.push (.cells t x.cells))
 | .alloc t cs, K => K (.ret (.ptr h.next 0)) (h.push (.cells t cs))
 | .build z ps, K => wv (ifill G fr z ps) fun cs => K (.ret (.agg cs)) h
 | .bsl n es z ps, K => wv (ifill G fr (acycle z (n * es)) ps) fun cs => cs.length = n * es ∧ K (.ret (.sl (.own h.tnext 0 es) n cs)) (h.pushTok n)
 | .mkmap, K => K (.ret (.mp h.next)) (h.push (.map []))
 | .lookup kind zero ok m k, K => wv (m.ev G fr) fun m => wv (k.ev G fr) fun k => wv (ilookup h.get kind zero ok m k) fun z => K (.ret z) h
 | .mapup kind m k x, K => wv (m.ev G fr) fun m => wv (k.ev G fr) fun k => wv (x.ev G fr) fun x => wv (imapup h kind m k x) fun h' => K (.ret (.v undef)) h'
 | .store size p x, K => wv (p.ev G fr) fun p => wv (x.ev G fr) fun x => wv (istore h size p x) fun h' => K (.ret (.v undef)) h'
 | .app es bytes a b, K => wv (a.ev G fr) fun a => wv (b.ev G fr) fun b => wv (iapp h es bytes a b) fun p => K (.ret p.1) p.2
 | .call f xs, K => wv (X.evs G fr xs) fun xs => CALL P G f xs h K
 | .callv f xs, K => wv (f.ev G fr) fun f => wv (X.evs G fr xs) fun xs => match f with
  | .fn (.func g) first cap => hasBody P g = true ∧ CALL P G g (first ++ xs ++ cap) h K
  | .yld ob => CALLY P G ob xs h K
  | _ => False
 | .inv m r xs, K => wv (r.ev G fr) fun r => wv (X.evs G fr xs) fun xs => match r with
  | .ifc t y => wv (mtv P t m) fun g => CALL P G g (y :: xs) h K
  | _ => False
 | .nchk x, K => wv (x.ev G fr) fun p => callable p = true ∧ K (.ret p) h
 | .beq ne x y, K => wv (x.ev G fr) fun x => wv (ibool x) fun a => wv (y.ev G fr) fun y => wv (ibool y) fun b => K (.ret (.v (.bool (if ne then !(a == b) else a == b)))) h
 | .beqA ne x y, K => wv (x.ev G fr) fun x => wv (ipr x) fun a => wv (y.ev G fr) fun y => wv (ipr y) fun b => K (.ret (.v (.bool (if ne then !(a.1 == b.1 && a.2 == b.2) else a.1 == b.1 && a.2 == b.2)))) h
 | .mx mn x y, K => wv (x.ev G fr) fun x => wv (aint x) fun p => wv (y.ev G fr) fun y => wv (aint y) fun q => K (.ret (.v (.int p.1 (if mn then (if q.2 < p.2 then q.2 else p.2) else if q.2 > p.2 then q.2 else p.2)))) h
 | .mks e es bytes z l c, K => wv (l.ev G fr) fun l => wv (aint l) fun l => wv (c.ev G fr) fun c => wv (aint c) fun c => wv (imks h e es bytes z l.2 c.2) fun p => K (.ret p.1) p.2
 | .pan x, K => wv (x.ev G fr) fun x => match x with
  | .ifc t y => K (.pan (.ifc t y)) h
  | _ => False
 | .aidx row n es x i, K => wv (x.ev G fr) fun x => wv (i.ev G fr) fun i => wv (iaidx row n es x i) fun z => K (.ret z) h
 | .slcp n es x lo hi, K => wv (x.ev G fr) fun x => wv (X.evo G fr lo) fun lo => wv (X.evo G fr hi) fun hi => wv (islcp n es lo hi x) fun z => K (.ret z) h
 | .tas t z ok x, K => wv (x.ev G fr) fun x => wv (itas t z ok x) fun y => K (.ret y) h
 | .inil ne x, K => wv (x.ev G fr) fun x => wv (iinil ne x) fun y => K (.ret y) h
def rowOf (P : Program) (t : TypeId) : Option (Option Nat) :=
 match isRow P t, P.info? t with
 | some true, some i => some (some i.size)
 | some false, some _ => some none
 | _, _ => none
theorem acut_row {P : Program} {t : TypeId} {row : Option Nat} (e : rowOf P t = some row) (cs : List AV) (off : Nat) : acut P t cs off = icut row cs off := by
 unfold rowOf at e
 unfold acut
 split at e
 ·rename_i i h1 h2; cases e; rw [h1, h2]; rfl
 ·rename_i i h1 h2; cases e; rw [h1, h2]; rfl
 ·cases e
def cop (P : Program) (o : Oper) : Option I :=
 match o.op with
 | .move x | .assign x => do pure (.mov (← X.of x))
 | .pick c a b => do pure (.pick (← X.of c) (← X.of a) (← X.of b))
 | .binOp op t x y _ => match P.underlying t with
  | some (.int _) | some .string => do pure (.bin op (← X.of x) (← X.of y))
  | some .bool => match op with
   | .eql => do pure (.beq false (← X.of x) (← X.of y))
   | .neq => do pure (.beq true (← X.of x) (← X.of y))
   | _ => none
  | some (.interface _) => match op, y with
   | .eql, .const .nilIface => do pure (.inil false (← X.of x))
   | .neq, .const .nilIface => do pure (.inil true (← X.of x))
   | _, _ => none
  | some (.array n e) => if arrOK P t n e then (match op with
    | .eql => do pure (.beqA false (← X.of x) (← X.of y))
    | .neq => do pure (.beqA true (← X.of x) (← X.of y))
    | _ => none) else none
  | _ => none
 | .unOp .not _ x => do pure (.not (← X.of x))
 | .convert s d x => match P.underlying s, P.underlying d with
  | some (.int _), some (.int k) => do pure (.cvt k (← X.of x))
  | _, _ => none
 | .fieldAddr s x f => match P.underlying s with
  | some (.struct fields) => match fields[f]? with
   | some fd => match P.info? fd.type with
    | some i => if i.size = 0 then none else do pure (.fadr fd.offset (← X.of x))
    | none => none
   | none => none
  | _ => none
 | .field t x f => match P.underlying t with
  | some (.struct fields) => match fields[f]? with
   | some fd => do pure (.fld (← rowOf P fd.type) fd.offset (← X.of x))
   | none => none
  | _ => none
 | .indexAddr t x i => match P.underlying t with
  | some (.slice e) => match P.info? e with
   | some ie => do pure (.iasl ie.size (← X.of x) (← X.of i))
   | none => none
  | some (.array n e) => match P.info? e with
   | some ie => do pure (.iaar n ie.size (← X.of x) (← X.of i))
   | none => none
  | _ => none
 | .index t x i => match P.underlying t with
  | some .string => do pure (.idxs (← X.of x) (← X.of i))
  | some (.array n e) => match P.info? e with
   | some ie => do pure (.aidx (← rowOf P e) n ie.size (← X.of x) (← X.of i))
   | none => none
  | _ => none
 | .slice t x lo hi none => match P.underlying t with
  | some (.slice e) => match P.info? e with
   | some ie => do pure (.slc ie.size (← X.of x) (← X.opt lo) (← X.opt hi))
   | none => none
  | some .string => do pure (.slcs (← X.of x) (← X.opt lo) (← X.opt hi))
  | some (.array n e) => match P.info? e with
   | some ie => do pure (.slcp n ie.size (← X.of x) (← X.opt lo) (← X.opt hi))
   | none => none
  | _ => none
 | .extract x i => do pure (.ext (← X.of x) i)
 | .makeInterface t x => if P.concrete t then do pure (.mki t (← X.of x)) else none
 | .makeFunc f first cap => do pure (.mkf f (← X.ofs first.toList) (← X.ofs cap.toList))
 | .load t x => do pure (.load (← rowOf P t) (← X.of x))
 | .box t x => do pure (.box t (← X.of x))
 | .alloc t => do pure (.alloc t (← azero P t))
 | .build t ps => match azero P t, P.underlying t with
  | some z, some (.array _ e) => match P.info? e with
   | some ie => do pure (.build z (← X.parts (fun i => some (i * ie.size, ie.size)) ps.toList))
   | none => none
  | some z, some (.struct fields) => match fields.toList.mapM (fun f => (P.info? f.type).map fun i => (f.offset, i.size)) with
   | some places => do pure (.build z (← X.parts (fun i => places[i]?) ps.toList))
   | none => none
  | _, _ => none
 | .buildSlice t n ps => match P.underlying t with
  | some (.slice e) => match P.info? e, azero P e with
   | some i, some z => if n * i.size ≤ 16777216 ∧ z.length = i.size ∧ 0 < i.size then do pure (.bsl n i.size z (← X.parts (fun k => some (k * i.size, i.size)) ps.toList)) else none
   | _, _ => none
  | _ => none
 | .makeMap _ none => some .mkmap
 | .lookup t m k ok => match P.underlying t with
  | some (.map key elem) => do pure (.lookup (← simpleKey P key) (← azeroV P elem) ok (← X.of m) (← X.of k))
  | _ => none
 | .mapUpdate t m k x | .insert t m k x => match P.underlying t with
  | some (.map key _) => do pure (.mapup (← simpleKey P key) (← X.of m) (← X.of k) (← X.of x))
  | _ => none
 | .store t p x => match P.info? t with
  | some i => do pure (.store i.size (← X.of p) (← X.of x))
  | none => none
 | .call c => match c.callee with
  | .builtin .len => match c.args.toList, c.argTypes.toList with
   | [x], [t] => match P.underlying t with
    | some (.slice _) => do pure (.lenl (← X.of x))
    | some .string => do pure (.lens (← X.of x))
    | _ => none
   | _, _ => none
  | .builtin .append => match c.args.toList, c.argTypes.toList with
   | [a, b], [t, t'] => if t = t' then match P.underlying t with
     | some (.slice e) => match P.info? e, azero P e with
      | some i, some z => if z.length = i.size ∧ 0 < i.size then do pure (.app i.size i.bytes (← X.of a) (← X.of b)) else none
      | _, _ => none
     | _ => none
    else none
   | _, _ => none
  | .value (.func f) => if hasBody P f then do pure (.call f (← X.ofs c.args.toList)) else none
  | .value f => do pure (.callv (← X.of f) (← X.ofs c.args.toList))
  | .invoke r m => do pure (.inv m (← X.of r) (← X.ofs c.args.toList))
  | .builtin .max => match c.args.toList with
   | [a, b] => do pure (.mx false (← X.of a) (← X.of b))
   | _ => none
  | .builtin .min => match c.args.toList with
   | [a, b] => do pure (.mx true (← X.of a) (← X.of b))
   | _ => none
  | _ => none
 | .nilCheck x => do pure (.nchk (← X.of x))
 | .makeSlice t l c => match P.underlying t with
  | some (.slice e) => match P.info? e, azero P e with
   | some i, some z => if z.length = i.size ∧ 0 < i.size then do pure (.mks e i.size i.bytes z (← X.of l) (← X.of c)) else none
   | _, _ => none
  | _ => none
 | .panic x => do pure (.pan (← X.of x))
 | .typeAssert x _ t ok => match P.underlying t with
  | some (.interface _) | none => none
  | some _ => match azeroV P t with
   | some z => do pure (.tas t z ok (← X.of x))
   | none => none
 | _ => none
def cop' (P : Program) (o : Oper) : I := (cop P o).getD (.gen o)
section
variable {P : Program} {G : Nat → Option (List AV)} {fr : Fr} {h : AH} {o : Oper}
def TGT (P : Program) (G : Nat → Option (List AV)) (fr : Fr) (o : Oper) (g : FuncId) (args : List AV) : Prop := ∃ c, o.op = .call c ∧ hasBody P g = true ∧
 ((∃ gx first cap xs, c.callee = .value gx ∧ aev G fr gx = some (.fn (.func g) first cap) ∧ aevs G fr c.args.toList = some xs ∧ args = first ++ xs ++ cap) ∨
  (∃ rv m t y xs, c.callee = .invoke rv m ∧ aev G fr rv = some (.ifc t y) ∧ mtv P t m = some g ∧ aevs G fr c.args.toList = some xs ∧ args = y :: xs))
theorem TGT.kind {P : Program} {G : Nat → Option (List AV)} {fr : Fr} {o : Oper} {g : FuncId} {args : List AV} (t : TGT P G fr o g args) : kindOf o = .e := by
 obtain ⟨c, h1, _, ⟨_, _, _, _, h2, _⟩ | ⟨_, _, _, _, _, h2, _⟩⟩ := t <;> simp [kindOf, h1, h2]
def Sim (P : Program) (G : Nat → Option (List AV)) (fr : Fr) (h : AH) (o : Oper) (K : AOut → AH → Prop) : Prop :=
 (∃ out h', astep P G (fun _ _ _ => none) fr h o = some (out, h') ∧ K out h') ∨
 (∃ g args, TGT P G fr o g args ∧ CALL P G g args h K) ∨
 (∃ c g ob xs, o.op = .call c ∧ c.callee = .value g ∧ aev G fr g = some (.yld ob) ∧ aevs G fr c.args.toList = some xs ∧ CALLY P G ob xs h K) ∨
 (∃ x v b, b2s P o = some x ∧ x.ev G fr = some v ∧ ib2s h.get v = some b ∧ K (.ret (.v (.string b))) h) ∨ NILQ P G fr o fun y => K (.ret y) h
theorem Sim.p {K : AOut → AH → Prop} {y : AV} (hk : kindOf o = .p) (e : pop P G fr o = some y) (k : K (.ret y) h) : Sim P G fr h o K :=
 .inl ⟨.ret y, h, by unfold astep; rw [hk]; simp only [e, Option.map_some], k⟩
theorem Sim.l {K : AOut → AH → Prop} {y : AV} (hk : kindOf o = .l) (e : lop P G fr h.get o = some y) (k : K (.ret y) h) : Sim P G fr h o K :=
 .inl ⟨.ret y, h, by unfold astep; rw [hk]; simp only [e, Option.map_some], k⟩
theorem Sim.a {K : AOut → AH → Prop} {p : Ev × (Nat → AV)} (hk : kindOf o = .a) (e : mkop P G fr o = some p) (k : K (.ret (mkput h p).1) (mkput h p).2) : Sim P G fr h o K :=
 .inl ⟨.ret (mkput h p).1, (mkput h p).2, by unfold astep; rw [hk]; simp only [e, Option.map_some], k⟩
theorem Sim.e {K : AOut → AH → Prop} {out : AOut} {h' : AH} (hk : kindOf o = .e) (e : eop P G (fun _ _ _ => none) fr h o = some (out, h')) (k : K out h') : Sim P G fr h o K :=
 .inl ⟨out, h', by unfold astep; rw [hk]; simp only [e], k⟩
end
end
section
section
section
variable {P : Program} {G : Nat → Option (List AV)} {fr : Fr} {h : AH} {o : Oper}
theorem alit_bin {op : BinOp} {t yt : TypeId} {x y : Operand} {a b r : Value} {z : AV} (ho : o.op = .binOp op t x y yt) (hx : aev G fr x = some (.v a)) (hy : aev G fr y = some (.v b))
  (hr : pureRun P (do eqGuard op t x y a b; binOp op t a b) = some r) (hz : ofV 64 r = some z) : alit P G fr o = some z := by
 unfold alit
 have h1 : o.op.operands.all (fun x => ((aev G fr x).bind lit).isSome) = true := by
  simp only [ho, Op.operands]
  simp [hx, hy, lit]
 rw [if_pos h1]
 have h2 : ((aev G fr x).bind lit).getD undef = a := by simp [hx, lit]
 have h3 : ((aev G fr y).bind lit).getD undef = b := by simp [hy, lit]
 simp only [execOp, ho, h2, h3]
 rw [pureRun_bind, hr]
 simp only [Option.bind_some, pureRun_pure, hz]
theorem ibin_run {op : BinOp} {t : TypeId} {x y : Operand} {a b : AV} {z : AV} (e : ibin op a b = some z) :
  ∃ u v r, a = .v u ∧ b = .v v ∧ pureRun P (do eqGuard op t x y u v; binOp op t u v) = some r ∧ ofV 64 r = some z := by
 unfold ibin at e
 split at e
 ·rename_i k a k' b
  suffices hh : ∃ r, pureRun P (do eqGuard op t x y (.int k a) (.int k' b); binOp op t (.int k a) (.int k' b)) = some r ∧ ofV 64 r = some z from
   let ⟨r, h1, h2⟩ := hh; ⟨_, _, r, rfl, rfl, h1, h2⟩
  have hg : ∀ op, eqGuard op t x y (.int k a) (.int k' b) = pure () := fun op => by
   unfold eqGuard
   cases op <;> rfl
  rw [hg]
  by_cases hkk : k = k'
  ·subst hkk
   simp only [pureRun_bind, pureRun_pure, Option.bind_some]
   cases op <;> simp only [if_true, reduceCtorEq] at e
   all_goals simp only [binOp, ne_eq, not_true_eq_false, if_false]
   all_goals first
    | (cases e; exact ⟨_, rfl, rfl⟩)
    | (split at e
       ·first | (cases e; done) | (cases e; rename_i hb; refine ⟨.int k _, ?_, rfl⟩; simp only [Op.shift]; rw [if_neg (by omega)]; rfl)
       ·first | (cases e; done) | (cases e; rename_i hb; refine ⟨.int k _, ?_, rfl⟩; simp only [Op.intDiv, hb, if_false]; rfl))
  ·cases op <;> simp only [hkk, if_false, reduceCtorEq] at e
   all_goals
    split at e
    ·first | (cases e; done) | (cases e; rename_i hb; refine ⟨.int k _, ?_, rfl⟩; simp only [pureRun_bind, pureRun_pure, Option.bind_some, binOp, Op.shift]; rw [if_neg (by omega)]; rfl)
    ·cases e
 ·rename_i a b
  suffices hh : ∃ r, pureRun P (do eqGuard op t x y (.string a) (.string b); binOp op t (.string a) (.string b)) = some r ∧ ofV 64 r = some z from
   let ⟨r, h1, h2⟩ := hh; ⟨_, _, r, rfl, rfl, h1, h2⟩
  have hg : ∀ op, eqGuard op t x y (.string a) (.string b) = pure () := fun op => by
   unfold eqGuard
   cases op <;> rfl
  rw [hg]
  cases op <;> simp only [reduceCtorEq] at e
  ·split at e
   ·rename_i hb
    cases e
    refine ⟨.string (a ++ b), ?_, rfl⟩
    simp only [pureRun_bind, pureRun_pure, Option.bind_some, binOp, Op.stringOp]
    rw [if_neg (by
     have : IntKind.i64.max = 9223372036854775807 := rfl
     rw [this]; omega)]
    rfl
   ·cases e
  ·cases e
   refine ⟨.bool _, ?_, rfl⟩
   simp only [pureRun_bind, pureRun_pure, Option.bind_some, binOp, Op.stringOp]
   have : (a.toList == b.toList) = decide (a = b) := by
    by_cases hab : a = b
    ·subst hab; simp
    ·simp [hab, ByteArray.toList_eq]
     intro hc; exact hab (by cases a; cases b; simp_all)
   rw [this]
  ·cases e
   refine ⟨.bool _, ?_, rfl⟩
   simp only [pureRun_bind, pureRun_pure, Option.bind_some, binOp, Op.stringOp]
   have : (a.toList == b.toList) = decide (a = b) := by
    by_cases hab : a = b
    ·subst hab; simp
    ·simp [hab, ByteArray.toList_eq]
     intro hc; exact hab (by cases a; cases b; simp_all)
   rw [this]
 ·cases e
theorem alit_un {op : UnOp} {t : TypeId} {x : Operand} {a r : Value} {z : AV} (ho : o.op = .unOp op t x) (hx : aev G fr x = some (.v a))
  (hr : pureRun P (Op.unary op a) = some r) (hz : ofV 64 r = some z) : alit P G fr o = some z := by
 unfold alit
 have h1 : o.op.operands.all (fun x => ((aev G fr x).bind lit).isSome) = true := by
  simp only [ho, Op.operands]
  simp [hx, lit]
 rw [if_pos h1]
 have h2 : ((aev G fr x).bind lit).getD undef = a := by simp [hx, lit]
 simp only [execOp, ho, h2]
 rw [pureRun_bind, hr]
 simp only [Option.bind_some, pureRun_pure, hz]
theorem alit_cvt {s d : TypeId} {x : Operand} {a r : Value} {z : AV} (ho : o.op = .convert s d x) (hx : aev G fr x = some (.v a))
  (hr : pureRun P (convert s d a) = some r) (hz : ofV 64 r = some z) : alit P G fr o = some z := by
 unfold alit
 have h1 : o.op.operands.all (fun x => ((aev G fr x).bind lit).isSome) = true := by
  simp only [ho, Op.operands]
  simp [hx, lit]
 rw [if_pos h1]
 have h2 : ((aev G fr x).bind lit).getD undef = a := by simp [hx, lit]
 simp only [execOp, ho, h2]
 rw [pureRun_bind, hr]
 simp only [Option.bind_some, pureRun_pure, hz]
theorem ibool_eq {x : AV} {t : Bool} (e : ibool x = some t) : x = .v (.bool t) := by
 unfold ibool at e
 split at e
 ·cases e; rfl
 ·cases e
theorem aint_eq {x : AV} {p : IntKind × Int} (e : aint x = some p) : x = .v (.int p.1 p.2) := by
 unfold aint at e
 split at e
 ·cases e; rfl
 ·cases e
theorem alit_binL {op : BinOp} {t yt : TypeId} {x y : Operand} {a b r : Value} {z : AV} (ho : o.op = .binOp op t x y yt) (hx : (aev G fr x).bind lit = some a) (hy : (aev G fr y).bind lit = some b)
  (hr : pureRun P (do eqGuard op t x y a b; binOp op t a b) = some r) (hz : ofV 64 r = some z) : alit P G fr o = some z := by
 unfold alit
 have h1 : o.op.operands.all (fun x => ((aev G fr x).bind lit).isSome) = true := by
  simp only [ho, Op.operands]
  simp [hx, hy]
 rw [if_pos h1]
 have h2 : ((aev G fr x).bind lit).getD undef = a := by simp [hx]
 have h3 : ((aev G fr y).bind lit).getD undef = b := by simp [hy]
 simp only [execOp, ho, h2, h3]
 rw [pureRun_bind, hr]
 simp only [Option.bind_some, pureRun_pure, hz]
theorem ipr_eq {x : AV} {p : Int × Int} (e : ipr x = some p) : x = .agg [.v (.int .i64 p.1), .v (.int .i64 p.2)] := by
 unfold ipr at e
 split at e
 ·cases e; rfl
 ·cases e
theorem alit_mx {c : Call} {bb : Builtin} {x y : Operand} {k k' : IntKind} {a b n : Int} (ho : o.op = .call c) (hcal : c.callee = .builtin bb) (hargs : c.args.toList = [x, y]) (hx : aev G fr x = some (.v (.int k a))) (hy : aev G fr y = some (.v (.int k' b)))
  (hr : ∀ cs, pureRun P (builtin bb c.argTypes o.type cs #[.int k a, .int k' b]) = some (.value (.int k n))) : alit P G fr o = some (.v (.int k n)) := by
 unfold alit
 have hops : o.op.operands = #[x, y] := by
  simp only [ho, Op.operands, Call.operands, hcal]
  apply Array.ext'; simpa using hargs
 have h1 : o.op.operands.all (fun x => ((aev G fr x).bind lit).isSome) = true := by
  rw [hops]; simp [hx, hy, lit]
 rw [if_pos h1]
 have h2 : ((aev G fr x).bind lit).getD undef = .int k a := by simp [hx, lit]
 have h3 : ((aev G fr y).bind lit).getD undef = .int k' b := by simp [hy, lit]
 have h4 : c.args.map (fun x => ((aev G fr x).bind lit).getD undef) = #[.int k a, .int k' b] := by
  apply Array.ext'; rw [Array.toList_map, hargs]; simp only [List.map_cons, List.map_nil, h2, h3]
 simp only [execOp, ho, resolve, hcal, h4, pureRun_bind, pureRun_pure, Option.bind_some, invoke, hr, ofV, plain]
 rfl
theorem cop_sound {i : I} {K : AOut → AH → Prop} (hc : cop P o = some i) (hs : istep P G fr h i K) : Sim P G fr h o K := by
 unfold cop at hc
 split at hc
 ·rename_i x ho
  simp only [Option.bind_eq_bind, Option.bind_eq_some_iff, Option.pure_def, Option.some.injEq] at hc
  obtain ⟨x', hx, rfl⟩ := hc
  obtain ⟨y, hy, k⟩ := wv_ex hs
  exact Sim.p (by simp [kindOf, ho]) (by simp only [pop, ho]; rw [X.of_ev hx]; exact hy) k
 ·rename_i x ho
  simp only [Option.bind_eq_bind, Option.bind_eq_some_iff, Option.pure_def, Option.some.injEq] at hc
  obtain ⟨x', hx, rfl⟩ := hc
  obtain ⟨y, hy, k⟩ := wv_ex hs
  exact Sim.p (by simp [kindOf, ho]) (by simp only [pop, ho]; rw [X.of_ev hx]; exact hy) k
 ·rename_i c a b ho
  simp only [Option.bind_eq_bind, Option.bind_eq_some_iff, Option.pure_def, Option.some.injEq] at hc
  obtain ⟨c', hcx, a', ha, b', hb, rfl⟩ := hc
  obtain ⟨z, hz, k⟩ := wv_ex hs
  obtain ⟨t, ht, k⟩ := wv_ex k
  rw [ibool_eq ht] at hz
  cases t with
  | true =>
   obtain ⟨y, hy, k⟩ := wv_ex (k.1 rfl)
   exact Sim.p (y := y) (by simp [kindOf, ho]) (by simp only [pop, ho, X.of_ev hcx, X.of_ev ha, X.of_ev hb, hz]; exact hy) k
  | false =>
   obtain ⟨y, hy, k⟩ := wv_ex (k.2 rfl)
   exact Sim.p (y := y) (by simp [kindOf, ho]) (by simp only [pop, ho, X.of_ev hcx, X.of_ev ha, X.of_ev hb, hz]; exact hy) k
 ·rename_i op t x y yt ho
  have fin : (∀ m, P.underlying t ≠ some (.interface m)) → (do pure (I.bin op (← X.of x) (← X.of y)) : Option I) = some i → Sim P G fr h o K := by
   intro hni hc
   simp only [Option.bind_eq_bind, Option.bind_eq_some_iff, Option.pure_def, Option.some.injEq] at hc
   obtain ⟨x', hx, y', hy, rfl⟩ := hc
   obtain ⟨a, ha, k⟩ := wv_ex hs
   obtain ⟨b, hb, k⟩ := wv_ex k
   obtain ⟨z, hz, k⟩ := wv_ex k
   obtain ⟨u, v, r, hu, hv, h1, h2⟩ := ibin_run (P := P) (t := t) (x := x) (y := y) hz
   rw [hu] at ha; rw [hv] at hb
   exact Sim.p (by simp [kindOf, ho]) (by simp only [pop, ho]; rw [inilv_none hni, alit_bin ho ((X.of_ev hx).trans ha) ((X.of_ev hy).trans hb) h1 h2]) k
  split at hc
  ·rename_i hu; exact fin (fun m e => by rw [hu] at e; cases e) hc
  ·rename_i hu; exact fin (fun m e => by rw [hu] at e; cases e) hc
  ·rename_i hu
   have fb : ∀ ne : Bool, o.op = .binOp (if ne then .neq else .eql) t x y yt → (do pure (I.beq ne (← X.of x) (← X.of y)) : Option I) = some i → Sim P G fr h o K := by
    intro ne ho hc
    simp only [Option.bind_eq_bind, Option.bind_eq_some_iff, Option.pure_def, Option.some.injEq] at hc
    obtain ⟨x', hx, y', hy, rfl⟩ := hc
    obtain ⟨u, ha, k⟩ := wv_ex hs
    obtain ⟨a, hba, k⟩ := wv_ex k
    obtain ⟨v, hb, k⟩ := wv_ex k
    obtain ⟨b, hbb, k⟩ := wv_ex k
    rw [ibool_eq hba] at ha; rw [ibool_eq hbb] at hb
    have hq : pureRun P (Op.equal t (.bool a) (.bool b)) = some (a == b) := by
     show pureRun P (Op.equalIn (9999 + 1) t (.bool a) (.bool b)) = _
     rw [Op.equalIn, pureRun_bind, pureRun_underlying hu]; rfl
    have hr : pureRun P (do eqGuard (if ne then .neq else .eql) t x y (.bool a) (.bool b); binOp (if ne then .neq else .eql) t (.bool a) (.bool b)) = some (.bool (if ne then !(a == b) else a == b)) := by
     cases ne with
     | true =>
      show pureRun P (binOp .neq t (.bool a) (.bool b)) = _
      simp only [binOp, pureRun_bind, hq, Option.bind_some, pureRun_pure, if_true]
     | false =>
      show pureRun P (binOp .eql t (.bool a) (.bool b)) = _
      simp only [binOp, pureRun_bind, hq, Option.bind_some, pureRun_pure]; rfl
    exact Sim.p (by simp [kindOf, ho]) (by simp only [pop, ho]; rw [inilv_none (fun m e => by rw [hu] at e; cases e), alit_bin ho ((X.of_ev hx).trans ha) ((X.of_ev hy).trans hb) hr rfl]) k
   split at hc
   ·exact fb false ho hc
   ·exact fb true ho hc
   ·cases hc
  ·rename_i ms hu
   split at hc
   ·simp only [Option.bind_eq_bind, Option.bind_eq_some_iff, Option.pure_def, Option.some.injEq] at hc
    obtain ⟨x', hx, rfl⟩ := hc
    obtain ⟨a, ha, k⟩ := wv_ex hs
    obtain ⟨z, hz, k⟩ := wv_ex k
    refine Sim.p (y := z) (by simp [kindOf, ho]) ?_ k
    simp only [pop, ho, X.of_ev hx, ha]
    unfold iinil at hz
    split at hz <;> cases hz <;> simp only [inilv, hu] <;> rfl
   ·simp only [Option.bind_eq_bind, Option.bind_eq_some_iff, Option.pure_def, Option.some.injEq] at hc
    obtain ⟨x', hx, rfl⟩ := hc
    obtain ⟨a, ha, k⟩ := wv_ex hs
    obtain ⟨z, hz, k⟩ := wv_ex k
    refine Sim.p (y := z) (by simp [kindOf, ho]) ?_ k
    simp only [pop, ho, X.of_ev hx, ha]
    unfold iinil at hz
    split at hz <;> cases hz <;> simp only [inilv, hu] <;> rfl
   ·cases hc
  ·rename_i n e hu
   have fb : ∀ ne : Bool, arrOK P t n e = true → o.op = .binOp (if ne then .neq else .eql) t x y yt → (do pure (I.beqA ne (← X.of x) (← X.of y)) : Option I) = some i → Sim P G fr h o K := by
    clear hc
    intro ne hok ho hc
    obtain ⟨hn2, ⟨kk, he⟩, hsz, hag, hgd⟩ := arrOK_eq hok
    rw [hn2] at hu
    simp only [Option.bind_eq_bind, Option.bind_eq_some_iff, Option.pure_def, Option.some.injEq] at hc
    obtain ⟨x', hx, y', hy, rfl⟩ := hc
    obtain ⟨u, ha, k⟩ := wv_ex hs
    obtain ⟨a, hba, k⟩ := wv_ex k
    obtain ⟨v, hb, k⟩ := wv_ex k
    obtain ⟨b, hbb, k⟩ := wv_ex k
    rw [ipr_eq hba] at ha; rw [ipr_eq hbb] at hb
    have hq := eq_pair (P := P) (t := t) (e := e) (a := a.1) (b := a.2) (c := b.1) (d := b.2) hu he hsz hag
    have hr : pureRun P (do eqGuard (if ne then .neq else .eql) t x y (.agg #[.int .i64 a.1, .int .i64 a.2]) (.agg #[.int .i64 b.1, .int .i64 b.2]); binOp (if ne then .neq else .eql) t (.agg #[.int .i64 a.1, .int .i64 a.2]) (.agg #[.int .i64 b.1, .int .i64 b.2])) = some (.bool (if ne then !(a.1 == b.1 && a.2 == b.2) else a.1 == b.1 && a.2 == b.2)) := by
     have hg : pureRun P (eqGuard (if ne then .neq else .eql) t x y (.agg #[.int .i64 a.1, .int .i64 a.2]) (.agg #[.int .i64 b.1, .int .i64 b.2])) = some () := by
      have hpr : pureRun P program = some P := rfl
      unfold eqGuard
      cases ne <;> simp [pureRun_bind, hpr, hgd, pureRun_pure]
     rw [pureRun_bind, hg]
     cases ne with
     | true =>
      show pureRun P (binOp .neq t _ _) = _
      simp only [binOp, pureRun_bind, hq, Option.bind_some, pureRun_pure, if_true]
     | false =>
      show pureRun P (binOp .eql t _ _) = _
      simp only [binOp, pureRun_bind, hq, Option.bind_some, pureRun_pure]; rfl
    exact Sim.p (by simp [kindOf, ho]) (by simp only [pop, ho]; rw [inilv_none (fun m e => by rw [hu] at e; cases e), alit_binL ho (by rw [(X.of_ev hx).trans ha]; rfl) (by rw [(X.of_ev hy).trans hb]; rfl) hr rfl]) k
   split at hc
   ·rename_i hok
    split at hc
    ·exact fb false hok ho hc
    ·exact fb true hok ho hc
    ·exact absurd hc (by simp)
   ·exact absurd hc (by simp)
  ·exact absurd hc (by simp)
 ·rename_i t x ho
  simp only [Option.bind_eq_bind, Option.bind_eq_some_iff, Option.pure_def, Option.some.injEq] at hc
  obtain ⟨x', hx, rfl⟩ := hc
  obtain ⟨z, hz, k⟩ := wv_ex hs
  obtain ⟨t', ht, k⟩ := wv_ex k
  rw [ibool_eq ht] at hz
  exact Sim.p (by simp [kindOf, ho]) (by simp only [pop, ho]; exact alit_un ho ((X.of_ev hx).trans hz) rfl rfl) k
 ·rename_i s d x ho
  split at hc
  ·rename_i ks kd hs1 hd1
   simp only [Option.bind_eq_bind, Option.bind_eq_some_iff, Option.pure_def, Option.some.injEq] at hc
   obtain ⟨x', hx, rfl⟩ := hc
   obtain ⟨z, hz, k⟩ := wv_ex hs
   obtain ⟨p, hp, k⟩ := wv_ex k
   rw [aint_eq hp] at hz
   have hr : pureRun P (convert s d (.int p.1 p.2)) = some (.int kd (kd.wrap p.2)) := by
    simp only [convert, pureRun_bind, pureRun_underlying hs1, pureRun_underlying hd1, Option.bind_some, Conv.intToInt, pureRun_pure]
   exact Sim.p (by simp [kindOf, ho]) (by simp only [pop, ho]; exact alit_cvt ho ((X.of_ev hx).trans hz) hr rfl) k
  ·cases hc
 ·rename_i s x f ho
  split at hc
  ·rename_i fields hu
   split at hc
   ·rename_i fd hf
    split at hc
    ·rename_i ti hi
     split at hc
     ·cases hc
     ·rename_i hsz
      simp only [Option.bind_eq_bind, Option.bind_eq_some_iff, Option.pure_def, Option.some.injEq] at hc
      obtain ⟨x', hx, rfl⟩ := hc
      obtain ⟨a, ha, k⟩ := wv_ex hs
      obtain ⟨z, hz, k⟩ := wv_ex k
      refine Sim.p (y := z) (by simp [kindOf, ho]) ?_ k
      simp only [pop, ho, X.of_ev hx, ha, afieldAddr, hu, hf, hi, hsz, if_false]
      unfold ifadr at hz
      split at hz <;> first | exact hz | cases hz
    ·cases hc
   ·cases hc
  ·cases hc
 ·rename_i t x f ho
  split at hc
  ·rename_i fields hu
   split at hc
   ·rename_i fd hf
    simp only [Option.bind_eq_bind, Option.bind_eq_some_iff, Option.pure_def, Option.some.injEq] at hc
    obtain ⟨row, hrow, x', hx, rfl⟩ := hc
    obtain ⟨a, ha, k⟩ := wv_ex hs
    obtain ⟨z, hz, k⟩ := wv_ex k
    refine Sim.p (y := z) (by simp [kindOf, ho]) ?_ k
    unfold ifld at hz
    split at hz
    ·simp only [pop, ho, X.of_ev hx, ha, afield, hu, hf, acut_row hrow]; exact hz
    ·cases hz
   ·cases hc
  ·cases hc
 ·rename_i t x ix ho
  split at hc
  ·rename_i e hu
   split at hc
   ·rename_i ti hi
    simp only [Option.bind_eq_bind, Option.bind_eq_some_iff, Option.pure_def, Option.some.injEq] at hc
    obtain ⟨x', hx, i', hix, rfl⟩ := hc
    obtain ⟨a, ha, k⟩ := wv_ex hs
    obtain ⟨b, hb, k⟩ := wv_ex k
    obtain ⟨z, hz, k⟩ := wv_ex k
    refine Sim.p (y := z) (by simp [kindOf, ho]) ?_ k
    simp only [pop, ho, X.of_ev hx, X.of_ev hix, ha, hb]
    unfold iiasl at hz
    split at hz <;> first | (simp only [aindexAddr, aint, hu, hi]; exact hz) | cases hz
   ·cases hc
  ·rename_i n e hu
   split at hc
   ·rename_i ti hi
    simp only [Option.bind_eq_bind, Option.bind_eq_some_iff, Option.pure_def, Option.some.injEq] at hc
    obtain ⟨x', hx, i', hix, rfl⟩ := hc
    obtain ⟨a, ha, k⟩ := wv_ex hs
    obtain ⟨b, hb, k⟩ := wv_ex k
    obtain ⟨z, hz, k⟩ := wv_ex k
    refine Sim.p (y := z) (by simp [kindOf, ho]) ?_ k
    simp only [pop, ho, X.of_ev hx, X.of_ev hix, ha, hb]
    unfold iiaar at hz
    split at hz <;> first | (simp only [aindexAddr, aint, hu, hi]; exact hz) | cases hz
   ·cases hc
  ·cases hc
 ·rename_i t x ix ho
  split at hc
  ·rename_i hu
   simp only [Option.bind_eq_bind, Option.bind_eq_some_iff, Option.pure_def, Option.some.injEq] at hc
   obtain ⟨x', hx, i', hix, rfl⟩ := hc
   obtain ⟨a, ha, k⟩ := wv_ex hs
   obtain ⟨b, hb, k⟩ := wv_ex k
   obtain ⟨z, hz, k⟩ := wv_ex k
   refine Sim.p (y := z) (by simp [kindOf, ho]) ?_ k
   simp only [pop, ho, X.of_ev hx, X.of_ev hix, ha, hb]
   unfold iidxs at hz
   split at hz <;> first | (simp only [aindex, aint, hu]; exact hz) | cases hz
  ·rename_i n e hu
   split at hc
   ·rename_i ie hie
    simp only [Option.bind_eq_bind, Option.bind_eq_some_iff, Option.pure_def, Option.some.injEq] at hc
    obtain ⟨row, hrow, x', hx, i', hix, rfl⟩ := hc
    obtain ⟨a, ha, k⟩ := wv_ex hs
    obtain ⟨b, hb, k⟩ := wv_ex k
    obtain ⟨z, hz, k⟩ := wv_ex k
    refine Sim.p (y := z) (by simp [kindOf, ho]) ?_ k
    simp only [pop, ho, X.of_ev hx, X.of_ev hix, ha, hb]
    unfold iaidx at hz
    split at hz
    ·simp only [aindex, aint, hu, hie, acut_row hrow]; exact hz
    ·cases hz
   ·cases hc
  ·cases hc
 ·rename_i t x lo hi ho
  split at hc
  ·rename_i e hu
   split at hc
   ·rename_i ti hti
    simp only [Option.bind_eq_bind, Option.bind_eq_some_iff, Option.pure_def, Option.some.injEq] at hc
    obtain ⟨x', hx, lo', hlo, hi', hhi, rfl⟩ := hc
    obtain ⟨a, ha, k⟩ := wv_ex hs
    obtain ⟨b, hb, k⟩ := wv_ex k
    obtain ⟨c, hc, k⟩ := wv_ex k
    obtain ⟨z, hz, k⟩ := wv_ex k
    refine Sim.p (y := z) (by simp [kindOf, ho]) ?_ k
    simp only [pop, ho, X.of_ev hx, X.opt_ev hlo, X.opt_ev hhi, ha, hb, hc]
    cases a with
    | sl tok n cs =>
     simp only [islc] at hz
     simp only [aslice, hu, hti]
     cases h1 : abound n c n with
     | none => rw [h1] at hz; simp at hz
     | some m => rw [h1] at hz; exact hz
    | arr q off n =>
     simp only [islc] at hz
     simp only [aslice, hu, hti]
     cases h1 : abound n c n with
     | none => rw [h1] at hz; simp at hz
     | some m => rw [h1] at hz; exact hz
    | _ => simp [islc] at hz
   ·cases hc
  ·rename_i hu
   simp only [Option.bind_eq_bind, Option.bind_eq_some_iff, Option.pure_def, Option.some.injEq] at hc
   obtain ⟨x', hx, lo', hlo, hi', hhi, rfl⟩ := hc
   obtain ⟨a, ha, k⟩ := wv_ex hs
   obtain ⟨b, hb, k⟩ := wv_ex k
   obtain ⟨c, hc, k⟩ := wv_ex k
   obtain ⟨z, hz, k⟩ := wv_ex k
   refine Sim.p (y := z) (by simp [kindOf, ho]) ?_ k
   simp only [pop, ho, X.of_ev hx, X.opt_ev hlo, X.opt_ev hhi, ha, hb, hc]
   unfold islcs at hz
   split at hz
   ·simp only [aslice, hu]; exact hz
   ·cases hz
  ·rename_i n e hu
   split at hc
   ·rename_i ie hie
    simp only [Option.bind_eq_bind, Option.bind_eq_some_iff, Option.pure_def, Option.some.injEq] at hc
    obtain ⟨x', hx, lo', hlo, hi', hhi, rfl⟩ := hc
    obtain ⟨a, ha, k⟩ := wv_ex hs
    obtain ⟨b, hb, k⟩ := wv_ex k
    obtain ⟨c, hc, k⟩ := wv_ex k
    obtain ⟨z, hz, k⟩ := wv_ex k
    refine Sim.p (y := z) (by simp [kindOf, ho]) ?_ k
    simp only [pop, ho, X.of_ev hx, X.opt_ev hlo, X.opt_ev hhi, ha, hb, hc]
    unfold islcp at hz
    split at hz
    ·simp only [aslice, hu, hie]
     cases h1 : abound n c n with
     | none => rw [h1] at hz; simp at hz
     | some m => rw [h1] at hz; exact hz
    ·cases hz
   ·cases hc
  ·cases hc
 ·rename_i x ix ho
  simp only [Option.bind_eq_bind, Option.bind_eq_some_iff, Option.pure_def, Option.some.injEq] at hc
  obtain ⟨x', hx, rfl⟩ := hc
  obtain ⟨a, ha, k⟩ := wv_ex hs
  split at k
  ·obtain ⟨z, hz, k⟩ := wv_ex k
   refine Sim.p (y := z) (by simp [kindOf, ho]) ?_ k
   simp only [pop, ho, X.of_ev hx, ha]; exact hz
  ·exact k.elim
 ·rename_i t x ho
  split at hc
  ·rename_i hcon
   simp only [Option.bind_eq_bind, Option.bind_eq_some_iff, Option.pure_def, Option.some.injEq] at hc
   obtain ⟨x', hx, rfl⟩ := hc
   obtain ⟨a, ha, k⟩ := wv_ex hs
   refine Sim.p (y := .ifc t a) (by simp [kindOf, ho]) ?_ k
   simp only [pop, ho, hcon, if_true, X.of_ev hx, ha, Option.map_some]
  ·cases hc
 ·rename_i f first cap ho
  simp only [Option.bind_eq_bind, Option.bind_eq_some_iff, Option.pure_def, Option.some.injEq] at hc
  obtain ⟨a', ha, b', hb, rfl⟩ := hc
  obtain ⟨a, h1, k⟩ := wv_ex hs
  obtain ⟨b, h2, k⟩ := wv_ex k
  refine Sim.p (y := .fn f a b) (by simp [kindOf, ho]) ?_ k
  simp only [pop, ho, X.ofs_evs ha, X.ofs_evs hb, h1, h2]
 ·rename_i t x ho
  simp only [Option.bind_eq_bind, Option.bind_eq_some_iff, Option.pure_def, Option.some.injEq] at hc
  obtain ⟨row, hrow, x', hx, rfl⟩ := hc
  obtain ⟨a, ha, k⟩ := wv_ex hs
  obtain ⟨z, hz, k⟩ := wv_ex k
  refine Sim.l (y := z) (by simp [kindOf, ho]) ?_ k
  simp only [lop, ho, X.of_ev hx, ha]
  cases a <;> simp only [iload, reduceCtorEq] at hz
  ·simp only [aload]
   split at hz
   ·rename_i h1; rw [h1]; simp only [acut_row hrow]; exact hz
   ·cases hz
  ·simp only [aload, acut_row hrow]; exact hz
 ·rename_i t x ho
  simp only [Option.bind_eq_bind, Option.bind_eq_some_iff, Option.pure_def, Option.some.injEq] at hc
  obtain ⟨x', hx, rfl⟩ := hc
  obtain ⟨a, ha, hk, k⟩ := wv_ex hs
  refine Sim.a (p := (.obj (.cells t a.cells), fun id => .ptr id 0)) (by simp [kindOf, ho]) ?_ k
  simp only [mkop, ho, X.of_ev hx, ha, Option.bind_some, hk, if_true]
 ·rename_i t ho
  simp only [Option.bind_eq_bind, Option.bind_eq_some_iff, Option.pure_def, Option.some.injEq] at hc
  obtain ⟨cs, hcs, rfl⟩ := hc
  refine Sim.a (p := (.obj (.cells t cs), fun id => .ptr id 0)) (by simp [kindOf, ho]) ?_ hs
  simp only [mkop, ho, hcs, Option.map_some]
 ·rename_i t ps ho
  split at hc
  ·rename_i z nn el hz hu
   split at hc
   ·rename_i ie hie
    simp only [Option.bind_eq_bind, Option.bind_eq_some_iff, Option.pure_def, Option.some.injEq] at hc
    obtain ⟨qs, hq, rfl⟩ := hc
    obtain ⟨cs, hcs, k⟩ := wv_ex hs
    obtain ⟨rs, h1, h2⟩ := ifill_eq hq hcs
    refine Sim.p (y := .agg cs) (by simp [kindOf, ho]) ?_ k
    simp only [pop, ho, h1, abuild, hz, hu, hie, h2, Option.map_some]
   ·cases hc
  ·rename_i z fields hz hu
   split at hc
   ·rename_i places hpl
    simp only [Option.bind_eq_bind, Option.bind_eq_some_iff, Option.pure_def, Option.some.injEq] at hc
    obtain ⟨qs, hq, rfl⟩ := hc
    obtain ⟨cs, hcs, k⟩ := wv_ex hs
    obtain ⟨rs, h1, h2⟩ := ifill_eq hq hcs
    refine Sim.p (y := .agg cs) (by simp [kindOf, ho]) ?_ k
    simp only [pop, ho, h1, abuild, hz, hu, hpl, h2, Option.map_some]
   ·cases hc
  ·cases hc
 ·rename_i t n ps ho
  split at hc
  ·rename_i e hu
   split at hc
   ·rename_i ti z hti hz
    split at hc
    ·rename_i hcond
     simp only [Option.bind_eq_bind, Option.bind_eq_some_iff, Option.pure_def, Option.some.injEq] at hc
     obtain ⟨qs, hq, rfl⟩ := hc
     obtain ⟨cs, hcs, hl, k⟩ := wv_ex hs
     obtain ⟨rs, h1, h2⟩ := ifill_eq hq hcs
     refine Sim.a (p := (.row n ti.size cs, fun t => .sl (.own t 0 ti.size) n cs)) (by simp [kindOf, ho]) ?_ k
     simp only [mkop, ho, h1, abuildSlice, hu, hti, hz, h2]
     rw [if_pos hcond, if_pos hl]
    ·cases hc
   ·cases hc
  ·cases hc
 ·rename_i t ho
  cases hc
  exact Sim.a (p := (.obj (.map []), fun id => .mp id)) (by simp [kindOf, ho]) (by simp only [mkop, ho]) hs
 ·rename_i t m k' ok ho
  split at hc
  ·rename_i key elem hu
   simp only [Option.bind_eq_bind, Option.bind_eq_some_iff, Option.pure_def, Option.some.injEq] at hc
   obtain ⟨kind, hkind, zero, hzero, m', hm, k2, hk2, rfl⟩ := hc
   obtain ⟨a, ha, k⟩ := wv_ex hs
   obtain ⟨b, hb, k⟩ := wv_ex k
   obtain ⟨z, hz, k⟩ := wv_ex k
   refine Sim.l (y := z) (by simp [kindOf, ho]) ?_ k
   simp only [lop, ho, X.of_ev hm, X.of_ev hk2, ha, hb]
   unfold ilookup at hz
   split at hz
   ·rename_i es kv h1 h2
    simp only [alookup, hu, h1, h2, hkind, hzero]
    cases h3 : afind kind kv es 0 with
    | none => rw [h3] at hz; simp at hz
    | some q =>
     rw [h3] at hz
     cases q with
     | none => exact hz
     | some pr => obtain ⟨j, x⟩ := pr; exact hz
   ·cases hz
  ·cases hc
 ·rename_i t m k' x ho
  split at hc
  ·rename_i key elem hu
   simp only [Option.bind_eq_bind, Option.bind_eq_some_iff, Option.pure_def, Option.some.injEq] at hc
   obtain ⟨kind, hkind, m', hm, k2, hk2, x', hx, rfl⟩ := hc
   obtain ⟨a, ha, k⟩ := wv_ex hs
   obtain ⟨b, hb, k⟩ := wv_ex k
   obtain ⟨c, hcx, k⟩ := wv_ex k
   obtain ⟨h', hz, k⟩ := wv_ex k
   refine Sim.e (by simp [kindOf, ho]) ?_ k
   simp only [eop, ho, X.of_ev hm, X.of_ev hk2, X.of_ev hx, ha, hb, hcx]
   cases a with
   | mp ob =>
    simp only [imapup] at hz
    cases h1 : lit b with
    | none => rw [h1] at hz; simp at hz
    | some kv =>
    rw [h1] at hz
    simp only at hz
    split at hz
    ·rename_i es h2
     simp only [amapUpdate, hu, h1, h2, hkind]
     cases h3 : afind kind kv es 0 with
     | none => rw [h3] at hz; simp at hz
     | some q =>
      rw [h3] at hz
      cases q with
      | none => cases hz; rfl
      | some pr => obtain ⟨j, x⟩ := pr; cases hz; rfl
    ·cases hz
   | _ => simp [imapup] at hz
  ·cases hc
 ·rename_i t m k' x ho
  split at hc
  ·rename_i key elem hu
   simp only [Option.bind_eq_bind, Option.bind_eq_some_iff, Option.pure_def, Option.some.injEq] at hc
   obtain ⟨kind, hkind, m', hm, k2, hk2, x', hx, rfl⟩ := hc
   obtain ⟨a, ha, k⟩ := wv_ex hs
   obtain ⟨b, hb, k⟩ := wv_ex k
   obtain ⟨c, hcx, k⟩ := wv_ex k
   obtain ⟨h', hz, k⟩ := wv_ex k
   refine Sim.e (by simp [kindOf, ho]) ?_ k
   simp only [eop, ho, X.of_ev hm, X.of_ev hk2, X.of_ev hx, ha, hb, hcx]
   cases a with
   | mp ob =>
    simp only [imapup] at hz
    cases h1 : lit b with
    | none => rw [h1] at hz; simp at hz
    | some kv =>
    rw [h1] at hz
    simp only at hz
    split at hz
    ·rename_i es h2
     simp only [amapUpdate, hu, h1, h2, hkind]
     cases h3 : afind kind kv es 0 with
     | none => rw [h3] at hz; simp at hz
     | some q =>
      rw [h3] at hz
      cases q with
      | none => cases hz; rfl
      | some pr => obtain ⟨j, x⟩ := pr; cases hz; rfl
    ·cases hz
   | _ => simp [imapup] at hz
  ·cases hc
 ·rename_i t p x ho
  split at hc
  ·rename_i ti hti
   simp only [Option.bind_eq_bind, Option.bind_eq_some_iff, Option.pure_def, Option.some.injEq] at hc
   obtain ⟨p', hp, x', hx, rfl⟩ := hc
   obtain ⟨a, ha, k⟩ := wv_ex hs
   obtain ⟨b, hb, k⟩ := wv_ex k
   obtain ⟨h', hz, k⟩ := wv_ex k
   refine Sim.e (by simp [kindOf, ho]) ?_ k
   simp only [eop, ho, X.of_ev hp, X.of_ev hx, ha, hb]
   unfold istore at hz
   split at hz
   ·split at hz
    ·rename_i h1
     simp only [astore, h1, hti]
     rw [hz]; rfl
    ·cases hz
   ·cases hz
  ·cases hc
 ·rename_i c ho
  split at hc
  ·rename_i hcal
   split at hc
   ·rename_i x t hargs htys
    split at hc
    ·rename_i e hu
     simp only [Option.bind_eq_bind, Option.bind_eq_some_iff, Option.pure_def, Option.some.injEq] at hc
     obtain ⟨x', hx, rfl⟩ := hc
     obtain ⟨a, ha, k⟩ := wv_ex hs
     obtain ⟨z, hz, k⟩ := wv_ex k
     refine Sim.l (y := z) (by simp [kindOf, ho, hcal]) ?_ k
     simp only [lop, ho, hcal, hargs, htys, X.of_ev hx, ha]
     cases a <;> simp only [ilenl, reduceCtorEq] at hz <;> simp only [alen, alenOf, hu] <;> exact hz
    ·rename_i hu
     simp only [Option.bind_eq_bind, Option.bind_eq_some_iff, Option.pure_def, Option.some.injEq] at hc
     obtain ⟨x', hx, rfl⟩ := hc
     obtain ⟨a, ha, k⟩ := wv_ex hs
     obtain ⟨z, hz, k⟩ := wv_ex k
     refine Sim.l (y := z) (by simp [kindOf, ho, hcal]) ?_ k
     simp only [lop, ho, hcal, hargs, htys, X.of_ev hx, ha]
     unfold ilens at hz
     split at hz
     ·simp only [alen, alenOf, hu]; exact hz
     ·cases hz
    ·cases hc
   ·cases hc
  ·rename_i hcal
   split at hc
   ·rename_i p q t t' hargs htys
    split at hc
    ·rename_i htt
     split at hc
     ·rename_i e hu
      split at hc
      ·rename_i ti z hti hz
       split at hc
       ·rename_i hcond
        simp only [Option.bind_eq_bind, Option.bind_eq_some_iff, Option.pure_def, Option.some.injEq] at hc
        obtain ⟨a', ha', b', hb', rfl⟩ := hc
        obtain ⟨a, ha, k⟩ := wv_ex hs
        obtain ⟨b, hb, k⟩ := wv_ex k
        obtain ⟨r, hr, k⟩ := wv_ex k
        refine Sim.e (by simp [kindOf, ho, hcal]) ?_ k
        simp only [eop, ho, hcal, hargs, htys, htt, if_true, X.of_ev ha', X.of_ev hb', ha, hb]
        unfold iapp at hr
        split at hr
        ·split at hr
         ·rename_i hc2
          obtain ⟨c1, c2, c3, c4, c5⟩ := hc2
          simp only [aappend, ← htt, hu, hti, hz]
          rw [if_pos ⟨hcond.1, hcond.2, c1, c2, c3, c4, c5⟩]
          exact congrArg (Option.map fun p => (AOut.ret p.1, p.2)) hr
         ·cases hr
        ·cases hr
       ·cases hc
      ·cases hc
     ·cases hc
    ·cases hc
   ·cases hc
  ·rename_i f hcal
   split at hc
   ·rename_i hb
    simp only [Option.bind_eq_bind, Option.bind_eq_some_iff, Option.pure_def, Option.some.injEq] at hc
    obtain ⟨xs', hxs, rfl⟩ := hc
    obtain ⟨xs, h1, k⟩ := wv_ex hs
    exact .inr (.inl ⟨f, xs, ⟨c, ho, hb, .inl ⟨.func f, [], [], xs, hcal, rfl, by rw [X.ofs_evs hxs]; exact h1, by simp⟩⟩, k⟩)
   ·cases hc
  ·rename_i f hnf hcal
   simp only [Option.bind_eq_bind, Option.bind_eq_some_iff, Option.pure_def, Option.some.injEq] at hc
   obtain ⟨f', hf, xs', hxs, rfl⟩ := hc
   obtain ⟨fv, hfv, k⟩ := wv_ex hs
   obtain ⟨xs, h1, k⟩ := wv_ex k
   cases fv with
   | fn ff first cap => cases ff with
    | func g => exact .inr (.inl ⟨g, _, ⟨c, ho, k.1, .inl ⟨f, first, cap, xs, hcal, by rw [X.of_ev hf]; exact hfv, by rw [X.ofs_evs hxs]; exact h1, rfl⟩⟩, k.2⟩)
    | _ => exact k.elim
   | yld ob => exact .inr (.inr (.inl ⟨c, f, ob, xs, ho, hcal, by rw [X.of_ev hf]; exact hfv, by rw [X.ofs_evs hxs]; exact h1, k⟩))
   | _ => exact k.elim
  ·rename_i rv m hcal
   simp only [Option.bind_eq_bind, Option.bind_eq_some_iff, Option.pure_def, Option.some.injEq] at hc
   obtain ⟨r', hr, xs', hxs, rfl⟩ := hc
   obtain ⟨fv, hfv, k⟩ := wv_ex hs
   obtain ⟨xs, h1, k⟩ := wv_ex k
   cases fv with
   | ifc t y =>
    obtain ⟨g, hg, k⟩ := wv_ex k
    exact .inr (.inl ⟨g, _, ⟨c, ho, (mtv_mtd hg).2, .inr ⟨rv, m, t, y, xs, hcal, by rw [X.of_ev hr]; exact hfv, hg, by rw [X.ofs_evs hxs]; exact h1, rfl⟩⟩, k⟩)
   | _ => exact k.elim
  ·rename_i hcal
   split at hc
   ·rename_i a b hargs
    simp only [Option.bind_eq_bind, Option.bind_eq_some_iff, Option.pure_def, Option.some.injEq] at hc
    obtain ⟨a', ha, b', hb, rfl⟩ := hc
    obtain ⟨u, hu, k⟩ := wv_ex hs
    obtain ⟨p, hp, k⟩ := wv_ex k
    obtain ⟨v, hv, k⟩ := wv_ex k
    obtain ⟨q, hq, k⟩ := wv_ex k
    rw [aint_eq hp] at hu; rw [aint_eq hq] at hv
    refine Sim.p (y := .v (.int p.1 (if q.2 > p.2 then q.2 else p.2))) (by simp [kindOf, ho, hcal]) ?_ k
    simp only [pop, ho]
    exact alit_mx ho hcal hargs ((X.of_ev ha).trans hu) ((X.of_ev hb).trans hv) (fun _ => rfl)
   ·cases hc
  ·rename_i hcal
   split at hc
   ·rename_i a b hargs
    simp only [Option.bind_eq_bind, Option.bind_eq_some_iff, Option.pure_def, Option.some.injEq] at hc
    obtain ⟨a', ha, b', hb, rfl⟩ := hc
    obtain ⟨u, hu, k⟩ := wv_ex hs
    obtain ⟨p, hp, k⟩ := wv_ex k
    obtain ⟨v, hv, k⟩ := wv_ex k
    obtain ⟨q, hq, k⟩ := wv_ex k
    rw [aint_eq hp] at hu; rw [aint_eq hq] at hv
    refine Sim.p (y := .v (.int p.1 (if q.2 < p.2 then q.2 else p.2))) (by simp [kindOf, ho, hcal]) ?_ k
    simp only [pop, ho]
    exact alit_mx ho hcal hargs ((X.of_ev ha).trans hu) ((X.of_ev hb).trans hv) (fun _ => rfl)
   ·cases hc
  ·cases hc
 ·rename_i x ho
  simp only [Option.bind_eq_bind, Option.bind_eq_some_iff, Option.pure_def, Option.some.injEq] at hc
  obtain ⟨x', hx, rfl⟩ := hc
  obtain ⟨a, ha, k⟩ := wv_ex hs
  exact Sim.p (y := a) (by simp [kindOf, ho]) (by simp only [pop, ho, X.of_ev hx, ha, k.1, if_true]) k.2
 ·rename_i t l c ho
  split at hc
  ·rename_i e hu
   split at hc
   ·rename_i ie z hie hz
    split at hc
    ·rename_i hcond
     simp only [Option.bind_eq_bind, Option.bind_eq_some_iff, Option.pure_def, Option.some.injEq] at hc
     obtain ⟨l', hl, c', hcx, rfl⟩ := hc
     obtain ⟨u, hu1, k⟩ := wv_ex hs
     obtain ⟨p, hp, k⟩ := wv_ex k
     obtain ⟨v, hv1, k⟩ := wv_ex k
     obtain ⟨q, hq, k⟩ := wv_ex k
     obtain ⟨r, hr, k⟩ := wv_ex k
     unfold imks at hr
     split at hr
     ·rename_i hb
      have hb' : 0 ≤ p.2 ∧ p.2 ≤ q.2 ∧ (ie.bytes : Int) * q.2 ≤ 281474976710656 ∧ q.2 ≤ 9223372036854775807 ∧ z.length = ie.size ∧ 0 < ie.size := ⟨hb.1, hb.2.1, hb.2.2.1, hb.2.2.2, hcond.1, hcond.2⟩
      split at hr
      ·rename_i hlc
       cases hr
       exact Sim.a (p := (.obj (.cells e (acycle z (p.2.toNat * ie.size))), fun id => .arr id 0 p.2.toNat)) (by simp [kindOf, ho])
        (by simp only [mkop, ho, X.of_ev hl, X.of_ev hcx, hu1, hv1, amake, hp, hq, hu, hie, hz]; rw [if_pos hb', if_pos hlc]) k
      ·rename_i hlc
       split at hr
       ·rename_i hl0
        cases hr
        exact Sim.a (p := (.row 0 ie.size [], fun t => .sl (.own t 0 ie.size) 0 [])) (by simp [kindOf, ho])
         (by simp only [mkop, ho, X.of_ev hl, X.of_ev hcx, hu1, hv1, amake, hp, hq, hu, hie, hz]; rw [if_pos hb', if_neg hlc, if_pos hl0]) k
       ·cases hr
     ·cases hr
    ·cases hc
   ·cases hc
  ·cases hc
 ·rename_i x ho
  simp only [Option.bind_eq_bind, Option.bind_eq_some_iff, Option.pure_def, Option.some.injEq] at hc
  obtain ⟨x', hx, rfl⟩ := hc
  obtain ⟨a, ha, k⟩ := wv_ex hs
  split at k
  ·rename_i t y
   exact Sim.e (out := .pan (.ifc t y)) (h' := h) (by simp [kindOf, ho]) (by simp only [eop, ho, X.of_ev hx, ha]) k
  ·exact k.elim
 ·rename_i x xt t ok ho
  split at hc
  ·cases hc
  ·cases hc
  ·rename_i d hni hu
   split at hc
   ·rename_i z hz
    simp only [Option.bind_eq_bind, Option.bind_eq_some_iff, Option.pure_def, Option.some.injEq] at hc
    obtain ⟨x', hx, rfl⟩ := hc
    obtain ⟨a, ha, k⟩ := wv_ex hs
    obtain ⟨y, hy, k⟩ := wv_ex k
    refine Sim.p (y := y) (by simp [kindOf, ho]) ?_ k
    simp only [pop, ho, X.of_ev hx, ha, atas, hu]
    unfold itas at hy
    cases d <;> first | exact absurd rfl (hni _) | (split at hy <;> simp only [hz, Option.map_some] <;> first | exact hy | cases hy)
   ·cases hc
 ·cases hc
theorem cop'_sound {K : AOut → AH → Prop} (hs : istep P G fr h (cop' P o) K) : Sim P G fr h o K := by
 unfold cop' at hs
 cases hc : cop P o with
 | some i => rw [hc] at hs; exact cop_sound hc hs
 | none =>
  rw [hc] at hs
  rcases hs with hs | hs
  ·obtain ⟨p, hp, k⟩ := wv_ex hs
   exact .inl ⟨p.1, p.2, hp, k⟩
  ·exact .inr (.inr (.inr hs))
end
end
section
def renOp (σ : List Nat) (o : Oper) : Oper := { o with after := o.after.map fun e => { e with on := σ.getD e.on 0 }, guard := o.guard.map fun g => (σ.getD g.1 0, g.2) }
def permOps (ops : Array Oper) (π σ : List Nat) : Array Oper := (π.map fun i => renOp σ ((ops[i]?).getD default)).toArray
def permOk (n : Nat) (π σ : List Nat) : Bool := decide (π.length = n) && decide (σ.length = n) && (List.range n).all fun i => decide (π.getD i 0 < n) && decide (σ.getD i 0 < n) && decide (π.getD (σ.getD i 0) 0 = i) && decide (σ.getD (π.getD i 0) 0 = i)
def edgesOk (ops : Array Oper) : Bool := ops.toList.all fun o => o.after.toList.all (fun e => decide (e.on < ops.size)) && (match o.guard with | none => true | some g => decide (g.1 < ops.size))
def permGo (ops : Array Oper) : Nat → Nat → List Nat → List Nat
 | 0, _, _ => []
 | n + 1, m, l =>
  let rdy := fun i => ((ancs ops ops.size).getD i 0) &&& m == ((ancs ops ops.size).getD i 0)
  match (match l.find? fun i => rdy i && kindAt ops i != .e with | some i => some i | none => l.find? rdy) with
  | some i => i :: permGo ops n (m ||| 2 ^ i) (l.filter (· != i))
  | none => []
def permOf (ops : Array Oper) : List Nat := permGo ops ops.size 0 (List.range ops.size)
def invOf (n : Nat) (π : List Nat) : List Nat := (List.range n).map fun i => π.findIdx (· == i)
def reorder (ops : Array Oper) : Option (Array Oper) :=
 let π := permOf ops
 let σ := invOf ops.size π
 if permOk ops.size π σ && edgesOk ops then some (permOps ops π σ) else none
section
variable {P : Program} {ops : Array Oper} {π σ : List Nat} {Q : Exit → Act → World → Prop}
theorem permOk_at (h : permOk ops.size π σ = true) {i : Nat} (hi : i < ops.size) : π.getD i 0 < ops.size ∧ σ.getD i 0 < ops.size ∧ π.getD (σ.getD i 0) 0 = i ∧ σ.getD (π.getD i 0) 0 = i := by
 unfold permOk at h
 simp only [Bool.and_eq_true, decide_eq_true_eq, List.all_eq_true, List.mem_range] at h
 have := h.2 i hi
 exact ⟨this.1.1.1, this.1.1.2, this.1.2, this.2⟩
theorem permOps_size (h : permOk ops.size π σ = true) : (permOps ops π σ).size = ops.size := by
 unfold permOk at h
 simp only [Bool.and_eq_true, decide_eq_true_eq] at h
 simp [permOps, h.1.1]
theorem permOps_at (h : permOk ops.size π σ = true) {p : Nat} (hp : p < ops.size) : (permOps ops π σ)[p]? = some (renOp σ ops[π.getD p 0]!) := by
 have hl : π.length = ops.size := by unfold permOk at h; simp only [Bool.and_eq_true, decide_eq_true_eq] at h; exact h.1.1
 have h1 := permOk_at h hp
 unfold permOps
 rw [List.getElem?_toArray, List.getElem?_map, List.getElem?_eq_getElem (by omega)]
 have e : π.getD p 0 = π[p] := by rw [List.getD_eq_getElem?_getD, List.getElem?_eq_getElem (by omega)]; rfl
 rw [e] at h1 ⊢
 simp only [Option.map_some, Option.some.injEq]
 rw [Array.getElem?_eq_getElem h1.1, getElem!_pos ops _ h1.1]; rfl
theorem permOps_to (h : permOk ops.size π σ = true) {i : Nat} {o : Oper} (ho : ops[i]? = some o) : (permOps ops π σ)[σ.getD i 0]? = some (renOp σ o) := by
 obtain ⟨hi, rfl⟩ := Array.getElem?_eq_some_iff.1 ho
 have h1 := permOk_at h hi
 rw [permOps_at h h1.2.1, h1.2.2.1, getElem!_pos ops i hi]
theorem edges_at (he : edgesOk ops = true) {i : Nat} {o : Oper} (ho : ops[i]? = some o) : (∀ e ∈ o.after.toList, e.on < ops.size) ∧ ∀ g, o.guard = some g → g.1 < ops.size := by
 unfold edgesOk at he
 rw [List.all_eq_true] at he
 have := he o (by rw [Array.mem_toList_iff]; exact Array.mem_of_getElem? ho)
 simp only [Bool.and_eq_true, List.all_eq_true, decide_eq_true_eq] at this
 refine ⟨this.1, fun g hg => ?_⟩
 have h2 := this.2
 rw [hg] at h2
 simpa using h2
theorem wanted_perm (h : permOk ops.size π σ = true) (he : edgesOk ops = true) {i : Nat} {o : Oper} (ho : ops[i]? = some o) (tm : Array Value) : Region.wanted (renOp σ o) (yielded (permOps ops π σ) tm) = Region.wanted o (yielded ops tm) := by
 unfold Region.wanted renOp
 cases hg : o.guard with
 | none => rfl
 | some g =>
  obtain ⟨g, want⟩ := g
  have hlt := (edges_at he ho).2 _ hg
  simp only [Option.map_some]
  have : yielded (permOps ops π σ) tm (σ.getD g 0) = yielded ops tm g := by
   unfold yielded
   have hgo : ops[g]? = some ops[g] := Array.getElem?_eq_getElem hlt
   rw [permOps_to h hgo, hgo]; rfl
  rw [this]
theorem wpOp_perm (h : permOk ops.size π σ = true) (he : edgesOk ops = true) {i : Nat} (hi : i < ops.size) {K : Act → World → Prop} {a : Act} {w : World} (k : wpOp P (permOps ops π σ) Q (σ.getD i 0) K a w) : wpOp P ops Q i K a w := by
 have ho : ops[i]? = some ops[i] := Array.getElem?_eq_getElem hi
 unfold wpOp at k ⊢
 rw [permOps_to h ho] at k
 rw [ho]
 simp only [wanted_perm h he ho] at k ⊢
 exact k
theorem ready_perm (h : permOk ops.size π σ = true) (he : edgesOk ops = true) {l l' : Array Bool} (hl : l.size = ops.size) (hl' : l'.size = ops.size) (hll : ∀ i, i < ops.size → l'[σ.getD i 0]? = l[i]?) {i : Nat} (hi : i < ops.size) : σ.getD i 0 ∈ Region.ready .any (permOps ops π σ) l' ↔ i ∈ Region.ready .any ops l := by
 have ho : ops[i]? = some ops[i] := Array.getElem?_eq_getElem hi
 have h1 := permOk_at h hi
 unfold Region.ready
 rw [List.mem_filter, List.mem_filter, List.mem_range, List.mem_range, permOps_size h, permOps_to h ho, ho, Array.getD_eq_getD_getElem?, Array.getD_eq_getD_getElem?, hll i hi]
 simp only [h1.2.1, hi, true_and, Option.map_some, Option.getD_some, Bool.and_eq_true]
 refine and_congr Iff.rfl ?_
 rw [Array.all_eq_true_iff_forall_mem, Array.all_eq_true_iff_forall_mem]
 have key : ∀ e, e.on < ops.size → (!Region.binds .any { e with on := σ.getD e.on 0 } || l'.getD (σ.getD e.on 0) false) = (!Region.binds .any e || l.getD e.on false) := fun e hlt => by
  rw [Array.getD_eq_getD_getElem?, Array.getD_eq_getD_getElem?, hll e.on hlt]; rfl
 constructor
 ·intro q e hem
  have := q { e with on := σ.getD e.on 0 } (Array.mem_map.2 ⟨e, hem, rfl⟩)
  rw [← key e ((edges_at he ho).1 e (by simpa using hem))]; exact this
 ·intro q e' hm'
  obtain ⟨e, hem, rfl⟩ := Array.mem_map.1 hm'
  rw [key e ((edges_at he ho).1 e (by simpa using hem))]; exact q e hem
theorem ready_lt {l : Array Bool} {i : Nat} (h : i ∈ Region.ready .any ops l) : i < ops.size := by
 unfold Region.ready at h
 exact List.mem_range.1 (List.mem_filter.1 h).1
theorem ready_nil (h : permOk ops.size π σ = true) (he : edgesOk ops = true) {l l' : Array Bool} (hl : l.size = ops.size) (hl' : l'.size = ops.size) (hll : ∀ i, i < ops.size → l'[σ.getD i 0]? = l[i]?) (hr : Region.ready .any ops l = []) : Region.ready .any (permOps ops π σ) l' = [] := by
 cases hq : Region.ready .any (permOps ops π σ) l' with
 | nil => rfl
 | cons p r =>
  exfalso
  have hm : p ∈ Region.ready .any (permOps ops π σ) l' := by rw [hq]; simp
  have hp := ready_lt hm
  rw [permOps_size h] at hp
  have h1 := permOk_at h hp
  have h2 := permOk_at h h1.1
  rw [← h1.2.2.2] at hm
  have := (ready_perm h he hl hl' hll h1.1).1 hm
  rw [hr] at this
  cases this
theorem wpAny_perm (h : permOk ops.size π σ = true) (he : edgesOk ops = true) : ∀ (fuel : Nat) {l l' : Array Bool} {a : Act} {w : World}, l.size = ops.size → l'.size = ops.size → (∀ i, i < ops.size → l'[σ.getD i 0]? = l[i]?) → wpAny P .any (permOps ops π σ) Q fuel l' a w → wpAny P .any ops Q fuel l a w
 | 0, l, l', a, w, hl, hl', hll, k => by
  refine ⟨?_, k.2⟩
  cases hq : Region.ready .any ops l with
  | nil => rfl
  | cons i r =>
   exfalso
   have hm : i ∈ Region.ready .any ops l := by rw [hq]; simp
   have := (ready_perm h he hl hl' hll (ready_lt hm)).2 hm
   rw [k.1] at this
   cases this
 | fuel + 1, l, l', a, w, hl, hl', hll, k => by
  refine ⟨fun hr => k.1 (ready_nil h he hl hl' hll hr), fun i hi => ?_⟩
  have hlt := ready_lt hi
  refine wpOp_perm h he hlt (wpOp_mono (fun a w q => ?_) (k.2 _ ((ready_perm h he hl hl' hll hlt).2 hi)))
  refine wpAny_perm h he fuel (by simp [hl]) (by simp [hl']) (fun x hx => ?_) q
  have h1 := permOk_at h hlt
  have h2 := permOk_at h hx
  by_cases e : i = x
  ·subst e
   rw [Array.getElem?_setIfInBounds_self_of_lt (by omega), Array.getElem?_setIfInBounds_self_of_lt (by omega)]
  ·rw [Array.getElem?_setIfInBounds_ne e, Array.getElem?_setIfInBounds_ne (fun q => e (by rw [← h1.2.2.1, q, h2.2.2.1]))]
   exact hll x hx
end
theorem wpAny_reorder {P : Program} {ops ops' : Array Oper} {Q : Exit → Act → World → Prop} (h : reorder ops = some ops') {a : Act} {w : World} (k : wpAny P .any ops' Q ops'.size (Array.replicate ops'.size false) a w) : wpAny P .any ops Q ops.size (Array.replicate ops.size false) a w := by
 unfold reorder at h
 simp only at h
 split at h
 ·rename_i q
  simp only [Bool.and_eq_true] at q
  cases h
  rw [permOps_size q.1] at k
  refine wpAny_perm q.1 q.2 _ (by simp) (by simp) (fun i hi => ?_) k
  have := permOk_at q.1 hi
  rw [Array.getElem?_replicate, Array.getElem?_replicate, if_pos this.2.1, if_pos hi]
 ·cases h
section
variable {F : Fence} {n : Nat} {P : Program} {ops : Array Oper} {Q : Exit → Act → World → Prop}
end
end
end
end Go.Proofs.YtcjlpklgnknpgaaGreatDoor.Pg
