/-
  Pg, part 13: what the plainer code does, over frames as lists and heaps as functions.
-/
import Derived.Test.YtcjlpklgnknpgaaGreatDoorPgIr3
set_option linter.unusedVariables false
set_option linter.unusedSimpArgs false
set_option linter.unusedSectionVars false
namespace Go.Proofs.YtcjlpklgnknpgaaGreatDoor.Pg
open Go
structure JH where
 next : Nat
 get : Nat → Option AObj
 tnext : Nat
 tok : Nat → Option Nat
def AH.j (h : AH) : JH := ⟨h.next, h.get, h.tnext, h.tok⟩
def JH.a (j : JH) : AH := { next := j.next, objs := .fn j.get, tnext := j.tnext, toks := .fn j.tok }
theorem JH.a_j (j : JH) : j.a.j = j := rfl
def JH.push (j : JH) (x : AObj) : JH := { j with next := j.next + 1, get := fun o => if o = j.next then some x else j.get o }
def JH.set (j : JH) (o : Nat) (x : AObj) : JH := { j with get := fun p => if p = o then some x else j.get p }
def JH.pushTok (j : JH) (F : Nat) : JH := { j with tnext := j.tnext + 1, tok := fun t => if t = j.tnext then some F else j.tok t }
def JH.setTok (j : JH) (t F : Nat) : JH := { j with tok := fun p => if p = t then some F else j.tok p }
theorem AH.j_push (h : AH) (x : AObj) : (h.push x).j = h.j.push x := by
 unfold AH.j JH.push AH.push
 simp only [JH.mk.injEq, true_and, and_true]
 exact ⟨funext fun o => T.get_set _ _ _ _, rfl⟩
theorem AH.j_set (h : AH) (o : Nat) (x : AObj) : (h.set o x).j = h.j.set o x := by
 unfold AH.j JH.set AH.set
 simp only [JH.mk.injEq, true_and, and_true]
 exact ⟨funext fun p => T.get_set _ _ _ _, rfl⟩
theorem AH.j_pushTok (h : AH) (F : Nat) : (h.pushTok F).j = h.j.pushTok F := by
 unfold AH.j JH.pushTok AH.pushTok
 simp only [JH.mk.injEq, true_and, and_true]
 exact ⟨rfl, funext fun p => T.get_set _ _ _ _⟩
theorem AH.j_setTok (h : AH) (t F : Nat) : (h.setTok t F).j = h.j.setTok t F := by
 unfold AH.j JH.setTok AH.setTok
 simp only [JH.mk.injEq, true_and, and_true]
 exact ⟨rfl, funext fun p => T.get_set _ _ _ _⟩
theorem AH.j_get (h : AH) : h.j.get = h.get := rfl
theorem AH.j_tok (h : AH) : h.j.tok = h.tok := rfl
abbrev L := List (Nat × AV)
def lk : L → Nat → AV
 | [], _ => .any
 | (d, x) :: l, i => if i = d then x else lk l i
def args0 : Nat → List AV → L
 | _, [] => []
 | n, x :: l => (n, x) :: args0 (n + 1) l
theorem lk_args0 : ∀ (l : List AV) (n i : Nat), lk (args0 n l) i = if n ≤ i then l.getD (i - n) .any else .any
 | [], n, i => by simp [args0, lk]
 | x :: l, n, i => by
  simp only [args0, lk, lk_args0 l]
  by_cases h : i = n
  ·subst h; simp
  ·rw [if_neg h]
   by_cases h1 : n + 1 ≤ i
   ·rw [if_pos h1, if_pos (by omega), show i - n = (i - (n + 1)) + 1 from by omega]; rfl
   ·rw [if_neg h1, if_neg (by omega)]
def FR (N : Nat) (fr : Fr) (l : L) : Prop := fr.n = N ∧ ∀ i, fr.get i = lk l i
theorem FR.set {N : Nat} {fr : Fr} {l : L} (h : FR N fr l) (d : Nat) (x : AV) : FR N (fr.set d x) ((d, x) :: l) :=
 ⟨h.1, fun i => by rw [Fr.get_set]; simp only [lk, h.2]⟩
def mkFr (N : Nat) (l : L) : Fr := { n := N, t := .fn fun i => some (lk l i) }
theorem mkFr_FR (N : Nat) (l : L) : FR N (mkFr N l) l := ⟨rfl, fun _ => rfl⟩
section
variable (P : Program) (G : Nat → Option (List AV))
def JC (f : FuncId) (args : List AV) (j : JH) (Q : AOut → JH → Prop) : Prop :=
 ∀ h : AH, h.j = j → CALL P G f args h fun o h' => Q o h'.j
def JY (o : Nat) (args : List AV) (j : JH) (Q : AOut → JH → Prop) : Prop :=
 ∀ h : AH, h.j = j → CALLY P G o args h fun o h' => Q o h'.j
def R64 (r : Int) : Prop := -9223372036854775808 ≤ r ∧ r ≤ 9223372036854775807
def jar (k : IntKind) (r : Int) (K : AV → Prop) : Prop :=
 match k with
 | .i64 => R64 r ∧ K (.v (.int .i64 r))
 | k => K (.v (.int k (k.wrap r)))
def jbin (op : BinOp) (x y : AV) (K : AV → Prop) : Prop :=
 match x, y with
 | .v (.int k a), .v (.int k' b) => match op with
  | .add => k = k' ∧ jar k (a + b) K
  | .sub => k = k' ∧ jar k (a - b) K
  | .mul => k = k' ∧ K (.v (.int k (k.wrap (a * b))))
  | .quo => k = k' ∧ b ≠ 0 ∧ jar k (a.tdiv b) K
  | .rem => k = k' ∧ b ≠ 0 ∧ K (.v (.int k (a.tmod b)))
  | .eql => k = k' ∧ K (.v (.bool (decide (a = b))))
  | .neq => k = k' ∧ K (.v (.bool (!decide (a = b))))
  | .lss => k = k' ∧ K (.v (.bool (decide (a < b))))
  | .leq => k = k' ∧ K (.v (.bool (decide (a ≤ b))))
  | .gtr => k = k' ∧ K (.v (.bool (decide (b < a))))
  | .geq => k = k' ∧ K (.v (.bool (decide (b ≤ a))))
  | op => wv (ibin op (.v (.int k a)) (.v (.int k' b))) K
 | .v (.string a), .v (.string b) => match op with
  | .add => a.size + b.size ≤ 9223372036854775807 ∧ K (.v (.string (a ++ b)))
  | .eql => K (.v (.bool (decide (a = b))))
  | .neq => K (.v (.bool (!decide (a = b))))
  | _ => False
 | _, _ => False
def jbool (x : AV) (K : Bool → Prop) : Prop :=
 match x with
 | .v (.bool t) => K t
 | _ => False
def jpr (x : AV) (K : Int × Int → Prop) : Prop :=
 match x with
 | .agg [.v (.int .i64 a), .v (.int .i64 b)] => K (a, b)
 | _ => False
def jcvt (k : IntKind) (x : AV) (K : AV → Prop) : Prop :=
 match x with
 | .v (.int _ i) => jar k i K
 | _ => False
def jiasl (es : Nat) (x i : AV) (K : AV → Prop) : Prop :=
 match x, i with
 | .sl _ n cs, .v (.int _ i) => (0 ≤ i ∧ i < n ∧ i.toNat * es < cs.length) ∧ K (.cptr (cs.drop (i.toNat * es)))
 | .arr o off n, .v (.int _ i) => (0 ≤ i ∧ i < n) ∧ K (.ptr o (off + i.toNat * es))
 | _, _ => False
def jiaar (n es : Nat) (x i : AV) (K : AV → Prop) : Prop :=
 match x, i with
 | .ptr o off, .v (.int _ i) => (0 ≤ i ∧ i < n) ∧ K (.ptr o (off + i.toNat * es))
 | .cptr cs, .v (.int _ i) => (0 ≤ i ∧ i < n) ∧ K (.cptr (cs.drop (i.toNat * es)))
 | _, _ => False
def jidxs (x i : AV) (K : AV → Prop) : Prop :=
 match x, i with
 | .v (.string s), .v (.int _ i) => 0 ≤ i ∧ wv (s[i.toNat]?) fun b => K (.v (.int .u8 b.toNat))
 | _, _ => False
def jload (C : Nat → Option AObj) (row : Option Nat) (x : AV) (K : AV → Prop) : Prop :=
 match x with
 | .ptr o off => wv (C o) fun ob => match ob with
  | .cells _ cs => wv (icut row cs off) K
  | _ => False
 | .cptr cs => wv (icut row cs 0) K
 | _ => False
def jstore (j : JH) (size : Nat) (p x : AV) (K : JH → Prop) : Prop :=
 match p with
 | .ptr o off => wv (j.get o) fun ob => match ob with
  | .cells e cs => (x.cells.length = size ∧ off + x.cells.length ≤ cs.length ∧ x.cells.all AV.one = true) ∧ K (j.set o (.cells e (splice cs off x.cells)))
  | _ => False
 | _ => False
def jmapup (j : JH) (kind : TypeDesc) (m k x : AV) (K : JH → Prop) : Prop :=
 match m with
 | .mp o => wv (lit k) fun kv => wv (j.get o) fun ob => match ob with
  | .map es => wv (afind kind kv es 0) fun r => match r with
   | some (i, _) => K (j.set o (.map (es.set i (kv, x))))
   | none => K (j.set o (.map (es ++ [(kv, x)])))
  | _ => False
 | _ => False
def japp (j : JH) (es bytes : Nat) (a b : AV) (K : AV → JH → Prop) : Prop :=
 match a, b with
 | .sl tok n cs, .sl tok' m cs' =>
  (cs.length = n * es ∧ cs'.length = m * es ∧ cs'.all AV.one = true ∧ (n + m) * bytes ≤ 140737488355328 ∧ n + m ≤ 9223372036854775807) ∧
  (m = 0 → K (.sl tok n cs) j) ∧ (m ≠ 0 → match tok with
   | .nil => K (.sl (.own j.tnext 0 es) m cs') (j.pushTok m)
   | .own tk k s => (j.tok tk = some (k + n) ∧ s = es) ∧ K (.sl (.own tk k s) (n + m) (cs ++ cs')) (j.setTok tk (k + n + m))
   | .none => False)
 | _, _ => False
def jmx (mn : Bool) (x y : AV) (K : AV → Prop) : Prop :=
 match x, y with
 | .v (.int k a), .v (.int _ b) => K (.v (.int k (if mn then min a b else max a b)))
 | _, _ => False
def jmks (j : JH) (e : TypeId) (es bytes : Nat) (z : List AV) (l c : AV) (K : AV → JH → Prop) : Prop :=
 match l, c with
 | .v (.int _ l), .v (.int _ c) => (0 ≤ l ∧ l ≤ c ∧ (bytes : Int) * c ≤ 281474976710656 ∧ c ≤ 9223372036854775807) ∧
  (l = c → K (.arr j.next 0 l.toNat) (j.push (.cells e (acycle z (l.toNat * es))))) ∧ (l ≠ c → l = 0 ∧ K (.sl (.own j.tnext 0 es) 0 []) (j.pushTok 0))
 | _, _ => False
def jpan (x : AV) (K : AV → Prop) : Prop :=
 match x with
 | .ifc t y => K (.ifc t y)
 | _ => False
def jaidx (row : Option Nat) (n es : Nat) (x i : AV) (K : AV → Prop) : Prop :=
 match x, i with
 | .agg cs, .v (.int _ i) => (0 ≤ i ∧ i < n) ∧ wv (icut row cs (i.toNat * es)) K
 | _, _ => False
def jx (l : L) (x : X) (K : AV → Prop) : Prop :=
 match x with
 | .r t => K (lk l t)
 | .k v => K v
 | .g i => wv (G i) fun cs => K (.cptr cs)
def jxs (l : L) : List X → (List AV → Prop) → Prop
 | [], K => K []
 | x :: xs, K => jx G l x fun y => jxs l xs fun ys => K (y :: ys)
def jxo (l : L) : Option X → (Option AV → Prop) → Prop
 | none, K => K none
 | some x, K => jx G l x fun y => K (some y)
def jfill (l : L) (cells : List AV) : List (Nat × Nat × X) → (List AV → Prop) → Prop
 | [], K => K cells
 | (off, size, x) :: r, K => jx G l x fun y => (y.known = true ∧ y.cells.length = size ∧ off + y.cells.length ≤ cells.length) ∧ jfill l (splice cells off y.cells) r K
def acy (z : List AV) : Nat → List AV
 | 0 => []
 | n + 1 => z ++ acy z n
theorem acy_len (z : List AV) : ∀ n : Nat, (acy z n).length = n * z.length
 | 0 => by simp [acy]
 | n + 1 => by simp only [acy, List.length_append, acy_len z n, Nat.add_mul]; omega
theorem acy_get (z : List AV) (hz : 0 < z.length) : ∀ (n k : Nat), k < n * z.length → (acy z n)[k]? = z[k % z.length]?
 | 0, k, h => by simp at h
 | n + 1, k, h => by
  simp only [acy]
  by_cases hk : k < z.length
  ·rw [List.getElem?_append_left hk, Nat.mod_eq_of_lt hk]
  ·have h2 : k - z.length < n * z.length := by rw [Nat.add_mul, Nat.one_mul] at h; omega
   have e : k % z.length = (k - z.length) % z.length := Nat.mod_eq_sub_mod (by omega)
   rw [List.getElem?_append_right (by omega), acy_get z hz n _ h2, e]
theorem acy_eq (z : List AV) (hz : 0 < z.length) (n : Nat) : acycle z (n * z.length) = acy z n := by
 apply List.ext_getElem?
 intro k
 by_cases hk : k < n * z.length
 ·rw [acy_get z hz n k hk]
  unfold acycle
  rw [List.getElem?_map, List.getElem?_range hk, Option.map_some]
  have hlt : k % z.length < z.length := Nat.mod_lt _ hz
  rw [List.getD_eq_getElem?_getD, List.getElem?_eq_getElem hlt]; rfl
 ·rw [List.getElem?_eq_none (by simp [acycle]; omega), List.getElem?_eq_none (by rw [acy_len]; omega)]
def jinv (P : Program) (m : String) (r : AV) (K : FuncId → AV → Prop) : Prop :=
 match r with
 | .ifc t y => wv (mtv P t m) fun g => K g y
 | _ => False
def jstep (l : L) (j : JH) : I → (AOut → JH → Prop) → Prop
 | .gen o, K => ∀ fr h, (∀ i, fr.get i = lk l i) → h.j = j → istep P G fr h (.gen o) fun o h' => K o h'.j
 | .mov x, K => jx G l x fun y => K (.ret y) j
 | .pick c a b, K => jx G l c fun c => jbool c fun t => wb t (jx G l a fun y => K (.ret y) j) (jx G l b fun y => K (.ret y) j)
 | .bin op x y, K => jx G l x fun x => jx G l y fun y => jbin op x y fun z => K (.ret z) j
 | .not x, K => jx G l x fun x => jbool x fun t => K (.ret (.v (.bool !t))) j
 | .cvt k x, K => jx G l x fun x => jcvt k x fun z => K (.ret z) j
 | .fadr off x, K => jx G l x fun x => wv (ifadr off x) fun z => K (.ret z) j
 | .fld row off x, K => jx G l x fun x => wv (ifld row off x) fun z => K (.ret z) j
 | .iasl es x i, K => jx G l x fun x => jx G l i fun i => jiasl es x i fun z => K (.ret z) j
 | .iaar n es x i, K => jx G l x fun x => jx G l i fun i => jiaar n es x i fun z => K (.ret z) j
 | .idxs x i, K => jx G l x fun x => jx G l i fun i => jidxs x i fun z => K (.ret z) j
 | .slc es x lo hi, K => jx G l x fun x => jxo G l lo fun lo => jxo G l hi fun hi => wv (islc es lo hi x) fun z => K (.ret z) j
 | .slcs x lo hi, K => jx G l x fun x => jxo G l lo fun lo => jxo G l hi fun hi => wv (islcs lo hi x) fun z => K (.ret z) j
 | .ext x i, K => jx G l x fun x => match x with
  | .tup vs => wv (vs[i]?) fun z => K (.ret z) j
  | _ => False
 | .mki t x, K => jx G l x fun x => K (.ret (.ifc t x)) j
 | .mkf f first cap, K => jxs G l first fun a => jxs G l cap fun b => K (.ret (.fn f a b)) j
 | .load row x, K => jx G l x fun x => jload j.get row x fun z => K (.ret z) j
 | .lenl x, K => jx G l x fun x => wv (ilenl x) fun z => K (.ret z) j
 | .lens x, K => jx G l x fun x => wv (ilens x) fun z => K (.ret z) j
 | .box t x, K => jx G l x fun x => x.known = true ∧ K (.ret (.ptr j.next 0)) (j.push (.cells t x.cells))
 | .alloc t cs, K => K (.ret (.ptr j.next 0)) (j.push (.cells t cs))
 | .build z ps, K => jfill G l z ps fun cs => K (.ret (.agg cs)) j
 | .bsl n es z ps, K => (z.length = es ∧ 0 < es) ∧ jfill G l (acy z n) ps fun cs => cs.length = n * es ∧ K (.ret (.sl (.own j.tnext 0 es) n cs)) (j.pushTok n)
 | .mkmap, K => K (.ret (.mp j.next)) (j.push (.map []))
 | .lookup kind zero ok m k, K => jx G l m fun m => jx G l k fun k => wv (ilookup j.get kind zero ok m k) fun z => K (.ret z) j
 | .mapup kind m k x, K => jx G l m fun m => jx G l k fun k => jx G l x fun x => jmapup j kind m k x fun j' => K (.ret (.v undef)) j'
 | .store size p x, K => jx G l p fun p => jx G l x fun x => jstore j size p x fun j' => K (.ret (.v undef)) j'
 | .app es bytes a b, K => jx G l a fun a => jx G l b fun b => japp j es bytes a b fun y j' => K (.ret y) j'
 | .call f xs, K => jxs G l xs fun xs => JC P G f xs j K
 | .callv f xs, K => jx G l f fun f => jxs G l xs fun xs => match f with
  | .fn (.func g) first cap => hasBody P g = true ∧ JC P G g (first ++ xs ++ cap) j K
  | .yld ob => JY P G ob xs j K
  | _ => False
 | .inv m r xs, K => jx G l r fun r => jxs G l xs fun xs => jinv P m r fun g y => JC P G g (y :: xs) j K
 | .nchk x, K => jx G l x fun p => callable p = true ∧ K (.ret p) j
 | .beq ne x y, K => jx G l x fun x => jbool x fun a => jx G l y fun y => jbool y fun b => K (.ret (.v (.bool (if ne then !(a == b) else a == b)))) j
 | .beqA ne x y, K => jx G l x fun x => jpr x fun a => jx G l y fun y => jpr y fun b => K (.ret (.v (.bool (if ne then !(a.1 == b.1 && a.2 == b.2) else a.1 == b.1 && a.2 == b.2)))) j
 | .mx mn x y, K => jx G l x fun x => jx G l y fun y => jmx mn x y fun z => K (.ret z) j
 | .mks e es bytes z l' c, K => jx G l l' fun x => jx G l c fun c => jmks j e es bytes z x c fun y j' => K (.ret y) j'
 | .pan x, K => jx G l x fun x => jpan x fun y => K (.pan y) j
 | .aidx row n es x i, K => jx G l x fun x => jx G l i fun i => jaidx row n es x i fun z => K (.ret z) j
 | .slcp n es x lo hi, K => jx G l x fun x => jxo G l lo fun lo => jxo G l hi fun hi => wv (islcp n es lo hi x) fun z => K (.ret z) j
 | .tas t z ok x, K => jx G l x fun x => wv (itas t z ok x) fun y => K (.ret y) j
 | .inil ne x, K => jx G l x fun x => wv (iinil ne x) fun y => K (.ret y) j
def joutK (K1 K2 : AV → JH → Prop) : AOut → JH → Prop
 | .ret x, h => K1 x h
 | .pan x, h => K2 x h
def jg (l : L) (g : Option (Nat × Bool)) (A B : L → Prop) : Prop :=
 match g with
 | none => A l
 | some (t, want) => match lk l t with
  | .v (.bool c) => wb c (if want then A ((t, .v (.bool true)) :: l) else B ((t, .v (.bool true)) :: l)) (if want then B ((t, .v (.bool false)) :: l) else A ((t, .v (.bool false)) :: l))
  | .v (.tuple _) => B l
  | _ => False
def jput (l : L) (d : Option Nat) (x : AV) (K : L → Prop) : Prop :=
 match d with
 | none => K l
 | some d => K ((d, x) :: l)
def jops : List IOp → L → JH → (Option AV → L → JH → Prop) → Prop
 | [], l, j, Q => Q none l j
 | o :: r, l, j, Q => jg l o.g (fun l => jstep P G l j o.i (joutK (fun x j' => jput l o.d x fun l' => jops r l' j' Q) fun x j' => Q (some x) l j')) (fun l => jput l o.d (.v undef) fun l' => jops r l' j Q)
structure JEnt where
 ex : Bool
 touch : Option Nat
 hb : JH
 ha : JH
def jdstep (l : L) (j : JH) (i : I) (K : AV → JH → Prop) : Prop :=
 match i with
 | .gen o => ∃ x, (∀ fr h, (∀ i, fr.get i = lk l i) → h.j = j → astep P G (fun _ _ _ => none) fr h o = some (.ret x, h)) ∧ K x j
 | .call f xs => jxs G l xs fun xs => ∃ x j', JC P G f xs j (fun o k => o = .ret x ∧ k = j') ∧ K x j'
 | .callv f xs => jx G l f fun f => jxs G l xs fun xs => match f with
  | .fn (.func g) first cap => hasBody P g = true ∧ ∃ x j', JC P G g (first ++ xs ++ cap) j (fun o k => o = .ret x ∧ k = j') ∧ K x j'
  | _ => False
 | .inv m r xs => jx G l r fun r => jxs G l xs fun xs => jinv P m r fun g y => ∃ x j', JC P G g (y :: xs) j (fun o k => o = .ret x ∧ k = j') ∧ K x j'
 | i => jstep P G l j i (joutK K fun _ _ => False)
def jtouch (l : L) (x : Option X) : Option Nat :=
 match x with
 | none => none
 | some (.r t) => match lk l t with
  | .ptr o _ | .mp o => some o
  | _ => none
 | some (.k (.ptr o _)) | some (.k (.mp o)) => some o
 | _ => none
def jdraw : List IOp → L → JH → List JEnt → (L → JH → List JEnt → Prop) → Prop
 | [], l, j, es, Q => Q l j es
 | o :: r, l, j, es, Q => jg l o.g (fun l => jdstep P G l j o.i fun x j' => jput l o.d x fun l' => jdraw r l' j' (es ++ [⟨true, jtouch l o.tx, j, j'⟩]) Q)
   (fun l => jput l o.d (.v undef) fun l' => jdraw r l' j (es ++ [⟨false, jtouch l o.tx, j, j⟩]) Q)
def jdpan (l : L) (j : JH) (o : Option IOp) (K : AV → JH → Prop) : Prop :=
 match o with
 | some ⟨_, none, _, .call f xs⟩ => jxs G l xs fun xs => ∃ x j', JC P G f xs j (fun o k => o = .pan x ∧ k = j') ∧ K x j'
 | _ => False
def lforget (l : L) (ds : List Nat) : L := ds.map (fun d => (d, .any)) ++ l
def jpairOk (es : List JEnt) (p : Nat × Nat) : Prop :=
 match es[p.1]?, es[p.2]? with
 | some ei, some ej => ei.ex = true → ej.ex = true → (∀ ob, ei.touch = some ob → ej.hb.get ob = ej.ha.get ob) ∧
   (ei.ha.next ≠ ei.hb.next → ej.hb.get ei.hb.next = ej.ha.get ei.hb.next) ∧ (ei.ha.tnext ≠ ei.hb.tnext → ej.hb.tok ei.hb.tnext = ej.ha.tok ei.hb.tnext)
 | _, _ => True
def jdrawOk (pairs : List (Nat × Nat)) (es : List JEnt) : Prop :=
 (∀ e ∈ es, e.hb.next ≤ e.ha.next ∧ e.hb.tnext ≤ e.ha.tnext ∧ ∀ ob, e.touch = some ob → ob < e.hb.next) ∧ ∀ p ∈ pairs, jpairOk es p
def jregQ (Q : AX → L → JH → Prop) : Option AV → L → JH → Prop
 | none, l, j => Q .norm l j
 | some x, l, j => Q (.pan x) l j
def jthen (K : L → JH → Prop) (Q : AX → L → JH → Prop) : AX → L → JH → Prop
 | .norm, l, j => K l j
 | .exit i, l, j => Q (.exit i) l j
 | .ret, l, j => Q .ret l j
 | .pan x, l, j => Q (.pan x) l j
def jblock (id : Nat) (Q : AX → L → JH → Prop) : AX → L → JH → Prop
 | .exit i, l, j => if i = id then Q .norm l j else Q (.exit i) l j
 | .norm, l, j => Q .norm l j
 | .ret, l, j => Q .ret l j
 | .pan x, l, j => Q (.pan x) l j
structure JDropH (hs h' h'' : JH) : Prop where
 lo : hs.next ≤ h''.next
 hi : h''.next ≤ h'.next
 tlo : hs.tnext ≤ h''.tnext
 thi : h''.tnext ≤ h'.tnext
 obj : ∀ o ob, o < h''.next → h'.get o = some ob → (o < hs.next ∧ hs.get o = some ob ∧ h''.get o = some ob) ∨ ∃ ob'', h''.get o = some ob'' ∧ OSub h''.next h''.tnext ob ob''
 tok : ∀ t, t < h''.tnext → h''.tok t = h'.tok t
def JDropW (hs h' h'' : JH) : Prop := JDropH hs h' h'' ∨ h'' = h'
def JDropL (j2 : JH) (l' l2 : L) : Prop := ∀ i, SubB j2.next j2.tnext (lk l' i) (lk l2 i)
def jloopQ (J : Nat → L → JH → Prop) (Q : AX → L → JH → Prop) (n : Nat) (j1 : JH) : AX → L → JH → Prop
 | .norm, l', j' => ∃ m l2 j2, m < n ∧ JDropL j2 l' l2 ∧ JDropW j1 j' j2 ∧ J m l2 j2
 | .exit i, l, j => Q (.exit i) l j
 | .ret, l, j => Q .ret l j
 | .pan x, l, j => Q (.pan x) l j
def JQ (N : Nat) (Q : AX → L → JH → Prop) : AX → Fr → AH → Prop := fun x fr h => ∃ l, FR N fr l ∧ Q x l h.j
def jrngQ (Q : AX → L → JH → Prop) (l : L) (o : Nat) : AOut → JH → Prop
 | .ret _, j' => ∃ fr1 st pe ps ca cb, j'.get o = some (.loop fr1 st pe ps ca cb) ∧ st ≠ .busy ∧ match pe with
  | none => Q .norm l (j'.set o .dead)
  | some .ret => Q .ret l (j'.set o .dead)
  | some (.exit i) => Q (.exit i) l (j'.set o .dead)
  | _ => False
 | .pan _, _ => False
def jwp : IR → L → JH → (AX → L → JH → Prop) → Prop
 | .bad, _, _, _ => False
 | .dfr _ _, _, _, _ => False
 | .rcv _ _, _, _, _ => False
 | .skip, l, j, Q => Q .norm l j
 | .exit id, l, j, Q => Q (.exit id) l j
 | .ret, l, j, Q => Q .ret l j
 | .reg ops, l, j, Q => jops P G ops l j (jregQ Q)
 | .draw ops pairs, l, j, Q => jdraw P G ops l j [] fun l' j' es => jdrawOk pairs es ∧ Q .norm l' j'
 | .drawP ops pairs p, l, j, Q => (jdraw P G ops l j [] fun l' j' es => jdrawOk pairs es ∧ Q .norm l' j') ∨
   jdraw P G (ops.take p) l j [] fun l' j' es => jdrawOk (pre2 p pairs) es ∧ jdpan P G l' j' ops[p]? fun x j'' => Q (.pan x) (lforget l (idsts ops)) j''
 | .seq a b, l, j, Q => jwp a l j (jthen (fun l j => jwp b l j Q) Q)
 | .cond x a b, l, j, Q => jx G l x fun c => jbool c fun t => wb t (jwp a l j Q) (jwp b l j Q)
 | .block id a, l, j, Q => jwp a l j (jblock id Q)
 | .loop a, l, j, Q => ∃ J : Nat → L → JH → Prop, (∃ n l0 j0, JDropL j0 l l0 ∧ JDropH j j j0 ∧ J n l0 j0) ∧ ∀ n l1 j1, J n l1 j1 → jwp a l1 j1 (jloopQ J Q n j1)
 | .rng x ps ca cb a b, l, j, Q => jx G l x fun g => match g with
  | .fn (.func it) [] cap => hasBody P it = true ∧ ∀ (fr : Fr), (∀ i, fr.get i = lk l i) → (∀ p ∈ ps.toList, p < fr.n) →
    (∀ fr' l' h Q, FR fr.n fr' l' → jwp a l' h.j Q → WP P G false ca fr' h (JQ fr.n Q)) → (∀ fr' l' h Q, FR fr.n fr' l' → jwp b l' h.j Q → WP P G false cb fr' h (JQ fr.n Q)) →
    JC P G it (.yld j.next :: cap) (j.push (.loop fr .ready none ps ca cb)) (jrngQ Q l j.next)
  | _ => False
 | .orc c, l, j, Q => ∀ N fr (h : AH) nb, cdmax c ≤ N → FR N fr l → h.j = j → WP P G nb c fr h (JQ N Q)
def jress (l : L) (j : JH) : List IRes → (List AV → Prop) → Prop
 | [], K => K []
 | r :: rs, K => match r.cell with
  | none => jress l j rs fun xs => K (lk l r.t :: xs)
  | some row => jload j.get row (lk l r.t) fun y => jress l j rs fun xs => K (y :: xs)
def jfin (j0 j' : JH) (v : AV) (Q : AV → JH → Prop) : Prop := ∃ y j'', JDropW j0 j' j'' ∧ SubB j''.next j''.tnext v y ∧ Q y j''
def jend (rs : List IRes) (j0 : JH) (Q : AOut → JH → Prop) : AX → L → JH → Prop
 | .norm, l, j | .ret, l, j => jress l j rs fun xs => jfin j0 j (aret xs) fun y j' => Q (.ret y) j'
 | .pan v, _, j => jfin j0 j v fun y j' => Q (.pan y) j'
 | .exit _, _, _ => False
end
def okOps (N : Nat) (ops : List IOp) : Bool := ops.all fun o => (match o.d with | none => true | some d => decide (d < N)) && (match o.g with | none => true | some (t, _) => decide (t < N))
def okIR (N : Nat) : IR → Bool
 | .reg ops => okOps N ops
 | .draw ops _ => okOps N ops
 | .drawP ops _ _ => okOps N ops
 | .seq a b => okIR N a && okIR N b
 | .cond _ a b => okIR N a && okIR N b
 | .block _ a => okIR N a
 | .loop a => okIR N a
 | .rng _ ps _ _ a b => ps.toList.all (fun p => decide (p < N)) && okIR N a && okIR N b
 | .orc c => decide (cdmax c ≤ N)
 | .dfr ops _ => okOps N ops
 | .rcv d ms => decide (d < N) && ms.all (fun p => decide (p.1 < N))
 | _ => true
section
variable {P : Program} {G : Nat → Option (List AV)} {fr : Fr} {h : AH} {l : L}
theorem jx_ev {N : Nat} {x : X} {K : AV → Prop} (f : FR N fr l) (k : jx G l x K) : wv (x.ev G fr) K := by
 cases x with
 | r t => simp only [jx, X.ev, wv_some, f.2] at k ⊢; exact k
 | k v => exact k
 | g i => obtain ⟨cs, e, k⟩ := wv_ex k; simp only [X.ev, e, Option.map_some, wv_some]; exact k
theorem wv_mono {α : Type} {o : Option α} {K K' : α → Prop} (k : wv o K) (hk : ∀ x, K x → K' x) : wv o K' := by
 cases o with
 | none => exact k
 | some x => exact hk x k
theorem jx_ev' {N : Nat} {x : X} {K K' : AV → Prop} (f : FR N fr l) (k : jx G l x K) (hk : ∀ y, K y → K' y) : wv (x.ev G fr) K' := wv_mono (jx_ev f k) hk
theorem jxs_ev {N : Nat} : ∀ {xs : List X} {K : List AV → Prop} (f : FR N fr l), jxs G l xs K → wv (X.evs G fr xs) K
 | [], K, f, k => k
 | x :: xs, K, f, k => by
  simp only [jxs] at k
  obtain ⟨y, hy, k⟩ := wv_ex (jx_ev f k)
  obtain ⟨ys, hys, k⟩ := wv_ex (jxs_ev f k)
  simp only [X.evs, hy, hys, wv_some]; exact k
theorem jxo_ev {N : Nat} {x : Option X} {K : Option AV → Prop} (f : FR N fr l) (k : jxo G l x K) : wv (X.evo G fr x) K := by
 cases x with
 | none => exact k
 | some x =>
  simp only [jxo] at k
  obtain ⟨y, hy, k⟩ := wv_ex (jx_ev f k)
  simp only [X.evo, hy, Option.map_some, wv_some]; exact k
theorem jfill_ev {N : Nat} : ∀ {ps : List (Nat × Nat × X)} {cells : List AV} {K : List AV → Prop} (f : FR N fr l), jfill G l cells ps K → wv (ifill G fr cells ps) K
 | [], cells, K, f, k => k
 | (off, size, x) :: r, cells, K, f, k => by
  simp only [jfill] at k
  obtain ⟨y, hy, hc, k⟩ := wv_ex (jx_ev f k)
  simp only [ifill, hy]
  rw [if_pos hc]; exact jfill_ev f k
theorem R64.wrap {r : Int} (h : R64 r) : IntKind.i64.wrap r = r := by
 unfold R64 at h
 show (if (true && decide (r % 18446744073709551616 ≥ 9223372036854775808)) = true then r % 18446744073709551616 - 18446744073709551616 else r % 18446744073709551616) = r
 simp only [Bool.true_and, decide_eq_true_eq]
 split <;> omega
theorem jar_w {k : IntKind} {r : Int} {K : AV → Prop} (h : jar k r K) : K (.v (.int k (k.wrap r))) := by
 unfold jar at h
 split at h
 ·rw [h.1.wrap]; exact h.2
 ·exact h
theorem jbin_sound {op : BinOp} {x y : AV} {K : AV → Prop} (h : jbin op x y K) : wv (ibin op x y) K := by
 unfold jbin at h
 split at h
 ·rename_i k a k' b
  split at h
  ·obtain ⟨rfl, h⟩ := h; simp only [ibin, if_true, wv_some]; exact jar_w h
  ·obtain ⟨rfl, h⟩ := h; simp only [ibin, if_true, wv_some]; exact jar_w h
  ·obtain ⟨rfl, h⟩ := h; simp only [ibin, if_true, wv_some]; exact h
  ·obtain ⟨rfl, hb, h⟩ := h; simp only [ibin, if_true, if_neg hb, wv_some]; exact jar_w h
  ·obtain ⟨rfl, hb, h⟩ := h
   simp only [ibin, if_true, if_neg hb, wv_some]; exact h
  ·obtain ⟨rfl, h⟩ := h; simp only [ibin, if_true, wv_some]; rw [show (a == b) = decide (a = b) from rfl]; exact h
  ·obtain ⟨rfl, h⟩ := h; simp only [ibin, if_true, wv_some]; rw [show (a != b) = !decide (a = b) from rfl]; exact h
  ·obtain ⟨rfl, h⟩ := h; simp only [ibin, if_true, wv_some]; exact h
  ·obtain ⟨rfl, h⟩ := h; simp only [ibin, if_true, wv_some]; exact h
  ·obtain ⟨rfl, h⟩ := h; simp only [ibin, if_true, wv_some]; exact h
  ·obtain ⟨rfl, h⟩ := h; simp only [ibin, if_true, wv_some]; exact h
  ·exact h
 ·split at h
  ·simp only [ibin, if_pos h.1, wv_some]; exact h.2
  ·exact h
  ·exact h
  ·exact h.elim
 ·exact h.elim
theorem jbool_sound {x : AV} {K : Bool → Prop} (h : jbool x K) : wv (ibool x) K := by
 unfold jbool at h
 split at h
 ·exact h
 ·exact h.elim
theorem jpr_sound {x : AV} {K : Int × Int → Prop} (h : jpr x K) : wv (ipr x) K := by
 unfold jpr at h
 split at h
 ·exact h
 ·exact h.elim
theorem jcvt_sound {k : IntKind} {x : AV} {K : AV → Prop} (h : jcvt k x K) : wv (aint x) fun p => K (.v (.int k (k.wrap p.2))) := by
 unfold jcvt at h
 split at h
 ·simp only [aint, wv_some]; exact jar_w h
 ·exact h.elim
theorem jiasl_sound {es : Nat} {x i : AV} {K : AV → Prop} (h : jiasl es x i K) : wv (iiasl es x i) K := by
 unfold jiasl at h
 split at h
 ·simp only [iiasl, if_pos h.1, wv_some]; exact h.2
 ·simp only [iiasl, if_pos h.1, wv_some]; exact h.2
 ·exact h.elim
theorem jiaar_sound {n es : Nat} {x i : AV} {K : AV → Prop} (h : jiaar n es x i K) : wv (iiaar n es x i) K := by
 unfold jiaar at h
 split at h
 ·simp only [iiaar, if_pos h.1, wv_some]; exact h.2
 ·simp only [iiaar, if_pos h.1, wv_some]; exact h.2
 ·exact h.elim
theorem jidxs_sound {x i : AV} {K : AV → Prop} (h : jidxs x i K) : wv (iidxs x i) K := by
 unfold jidxs at h
 split at h
 ·obtain ⟨h0, h⟩ := h
  obtain ⟨b, hb, h⟩ := wv_ex h
  simp only [iidxs, if_pos h0, hb, Option.map_some, wv_some]; exact h
 ·exact h.elim
theorem jload_sound {C : Nat → Option AObj} {row : Option Nat} {x : AV} {K : AV → Prop} (h : jload C row x K) : wv (iload C row x) K := by
 unfold jload at h
 split at h
 ·obtain ⟨ob, hb, h⟩ := wv_ex h
  split at h
  ·simp only [iload, hb]; exact h
  ·exact h.elim
 ·exact h
 ·exact h.elim
theorem jstore_sound {h : AH} {size : Nat} {p x : AV} {K : JH → Prop} (k : jstore h.j size p x K) : wv (istore h size p x) fun h' => K h'.j := by
 unfold jstore at k
 split at k
 ·obtain ⟨ob, hb, k⟩ := wv_ex k
  rw [AH.j_get] at hb
  split at k
  ·simp only [istore, hb, if_pos k.1, wv_some, AH.j_set]; exact k.2
  ·exact k.elim
 ·exact k.elim
theorem jmapup_sound {h : AH} {kind : TypeDesc} {m k x : AV} {K : JH → Prop} (q : jmapup h.j kind m k x K) : wv (imapup h kind m k x) fun h' => K h'.j := by
 unfold jmapup at q
 split at q
 ·obtain ⟨kv, hk, q⟩ := wv_ex q
  obtain ⟨ob, hb, q⟩ := wv_ex q
  rw [AH.j_get] at hb
  split at q
  ·obtain ⟨r, hr, q⟩ := wv_ex q
   simp only [imapup, hk, hb, hr]
   split at q <;> (simp only [wv_some, AH.j_set]; exact q)
  ·exact q.elim
 ·exact q.elim
theorem japp_sound {h : AH} {es bytes : Nat} {a b : AV} {K : AV → JH → Prop} (k : japp h.j es bytes a b K) : wv (iapp h es bytes a b) fun p => K p.1 p.2.j := by
 unfold japp at k
 split at k
 ·rename_i tok n cs tok' m cs'
  obtain ⟨h1, h2, h3⟩ := k
  simp only [iapp, if_pos h1]
  by_cases hm : m = 0
  ·rw [if_pos hm]; exact h2 hm
  ·rw [if_neg hm]
   have h3 := h3 hm
   split at h3
   ·simp only [wv_some, AH.j_pushTok]; exact h3
   ·simp only
    rw [if_pos (by rw [← AH.j_tok]; exact h3.1)]
    simp only [wv_some, AH.j_setTok]; exact h3.2
   ·exact h3.elim
 ·exact k.elim
theorem jmx_sound {mn : Bool} {x y : AV} {K : AV → Prop} (k : jmx mn x y K) : wv (aint x) fun p => wv (aint y) fun q => K (.v (.int p.1 (if mn then (if q.2 < p.2 then q.2 else p.2) else if q.2 > p.2 then q.2 else p.2))) := by
 unfold jmx at k
 split at k
 ·rename_i kk a kb b
  simp only [aint, wv_some]
  have e : (if mn then (if b < a then b else a) else if b > a then b else a) = if mn then min a b else max a b := by
   cases mn
   ·simp only [Bool.false_eq_true, if_false]; split <;> omega
   ·simp only [if_true]; split <;> omega
  rw [e]; exact k
 ·exact k.elim
theorem jmks_sound {h : AH} {e : TypeId} {es bytes : Nat} {z : List AV} {l c : AV} {K : AV → JH → Prop} (k : jmks h.j e es bytes z l c K) : wv (aint l) fun l => wv (aint c) fun c => wv (imks h e es bytes z l.2 c.2) fun p => K p.1 p.2.j := by
 unfold jmks at k
 split at k
 ·rename_i kl l kc c
  obtain ⟨h1, h2, h3⟩ := k
  simp only [aint, wv_some, imks, if_pos h1]
  by_cases hlc : l = c
  ·rw [if_pos hlc]; simp only [wv_some, AH.j_push]; exact h2 hlc
  ·rw [if_neg hlc, if_pos (h3 hlc).1]; simp only [wv_some, AH.j_pushTok]; exact (h3 hlc).2
 ·exact k.elim
theorem jaidx_sound {row : Option Nat} {n es : Nat} {x i : AV} {K : AV → Prop} (k : jaidx row n es x i K) : wv (iaidx row n es x i) K := by
 unfold jaidx at k
 split at k
 ·simp only [iaidx, if_pos k.1]; exact k.2
 ·exact k.elim
theorem JY.use {o : Nat} {args : List AV} {K : AOut → JH → Prop} (k : JY P G o args h.j K) : CALLY P G o args h fun o h' => K o h'.j := k h rfl
theorem JC.use {f : FuncId} {args : List AV} {K : AOut → JH → Prop} (k : JC P G f args h.j K) : CALL P G f args h fun o h' => K o h'.j := k h rfl
theorem jstep_sound {N : Nat} {i : I} {K : AOut → JH → Prop} (f : FR N fr l) (k : jstep P G l h.j i K) : istep P G fr h i fun o h' => K o h'.j := by
 cases i with
 | gen o => exact k fr h f.2 rfl
 | mov x => dsimp only [jstep] at k; dsimp only [istep]; exact jx_ev f k
 | pick c a b =>
  dsimp only [jstep] at k; dsimp only [istep]
  refine jx_ev' f k fun c k => wv_mono (jbool_sound k) fun t k => ⟨fun e => jx_ev f (k.1 e), fun e => jx_ev f (k.2 e)⟩
 | bin op x y => dsimp only [jstep] at k; dsimp only [istep]; exact jx_ev' f k fun x k => jx_ev' f k fun y k => jbin_sound k
 | not x => dsimp only [jstep] at k; dsimp only [istep]; exact jx_ev' f k fun x k => jbool_sound k
 | cvt kd x => dsimp only [jstep] at k; dsimp only [istep]; exact jx_ev' f k fun x k => jcvt_sound k
 | fadr off x => dsimp only [jstep] at k; dsimp only [istep]; exact jx_ev' f k fun x k => k
 | fld row off x => dsimp only [jstep] at k; dsimp only [istep]; exact jx_ev' f k fun x k => k
 | iasl es x i => dsimp only [jstep] at k; dsimp only [istep]; exact jx_ev' f k fun x k => jx_ev' f k fun i k => jiasl_sound k
 | iaar n es x i => dsimp only [jstep] at k; dsimp only [istep]; exact jx_ev' f k fun x k => jx_ev' f k fun i k => jiaar_sound k
 | idxs x i => dsimp only [jstep] at k; dsimp only [istep]; exact jx_ev' f k fun x k => jx_ev' f k fun i k => jidxs_sound k
 | slc es x lo hi => dsimp only [jstep] at k; dsimp only [istep]; exact jx_ev' f k fun x k => wv_mono (jxo_ev f k) fun lo k => wv_mono (jxo_ev f k) fun hi k => k
 | slcs x lo hi => dsimp only [jstep] at k; dsimp only [istep]; exact jx_ev' f k fun x k => wv_mono (jxo_ev f k) fun lo k => wv_mono (jxo_ev f k) fun hi k => k
 | ext x i => dsimp only [jstep] at k; dsimp only [istep]; exact jx_ev' f k fun x k => by cases x <;> exact k
 | mki t x => dsimp only [jstep] at k; dsimp only [istep]; exact jx_ev' f k fun x k => k
 | mkf g first cap => dsimp only [jstep] at k; dsimp only [istep]; exact wv_mono (jxs_ev f k) fun a k => jxs_ev f k
 | load row x => dsimp only [jstep] at k; dsimp only [istep]; exact jx_ev' f k fun x k => jload_sound k
 | lenl x => dsimp only [jstep] at k; dsimp only [istep]; exact jx_ev' f k fun x k => k
 | lens x => dsimp only [jstep] at k; dsimp only [istep]; exact jx_ev' f k fun x k => k
 | box t x => dsimp only [jstep] at k; dsimp only [istep]; exact jx_ev' f k fun x k => ⟨k.1, by rw [AH.j_push]; exact k.2⟩
 | alloc t cs => simp only [istep, AH.j_push]; exact k
 | build z ps => dsimp only [jstep] at k; dsimp only [istep]; exact jfill_ev f k
 | bsl n es z ps =>
  dsimp only [jstep] at k; dsimp only [istep]
  obtain ⟨⟨k1, k2⟩, k⟩ := k
  subst k1
  rw [acy_eq z k2]
  exact wv_mono (jfill_ev f k) fun cs k => ⟨k.1, by rw [AH.j_pushTok]; exact k.2⟩
 | mkmap => simp only [istep, AH.j_push]; exact k
 | lookup kind zero ok m kk => dsimp only [jstep] at k; dsimp only [istep]; exact jx_ev' f k fun x k => jx_ev' f k fun y k => k
 | mapup kind m kk x => dsimp only [jstep] at k; dsimp only [istep]; exact jx_ev' f k fun m k => jx_ev' f k fun kk k => jx_ev' f k fun x k => jmapup_sound k
 | store size p x => dsimp only [jstep] at k; dsimp only [istep]; exact jx_ev' f k fun p k => jx_ev' f k fun x k => jstore_sound k
 | app es bytes a b => dsimp only [jstep] at k; dsimp only [istep]; exact jx_ev' f k fun a k => jx_ev' f k fun b k => japp_sound k
 | call g xs => dsimp only [jstep] at k; dsimp only [istep]; exact wv_mono (jxs_ev f k) fun xs k => k.use
 | callv g xs =>
  dsimp only [jstep] at k; dsimp only [istep]
  refine jx_ev' f k fun g k => wv_mono (jxs_ev f k) fun xs k => ?_
  cases g with
  | fn g first cap => cases g with
   | func g => exact ⟨k.1, k.2.use⟩
   | _ => exact k.elim
  | yld ob => exact k.use
  | _ => exact k.elim
 | inv m r xs =>
  dsimp only [jstep] at k; dsimp only [istep]
  refine jx_ev' f k fun r k => wv_mono (jxs_ev f k) fun xs k => ?_
  cases r with
  | ifc t y => exact wv_mono k fun g k => k.use
  | _ => exact k.elim
 | nchk x => dsimp only [jstep] at k; dsimp only [istep]; exact jx_ev' f k fun x k => k
 | beq ne x y => dsimp only [jstep] at k; dsimp only [istep]; exact jx_ev' f k fun x k => wv_mono (jbool_sound k) fun a k => jx_ev' f k fun y k => jbool_sound k
 | beqA ne x y => dsimp only [jstep] at k; dsimp only [istep]; exact jx_ev' f k fun x k => wv_mono (jpr_sound k) fun a k => jx_ev' f k fun y k => jpr_sound k
 | mx mn x y =>
  dsimp only [jstep] at k; dsimp only [istep]
  obtain ⟨u, hu, k⟩ := wv_ex (jx_ev f k)
  obtain ⟨v, hv, k⟩ := wv_ex (jx_ev f k)
  obtain ⟨p, hp, k⟩ := wv_ex (jmx_sound k)
  obtain ⟨q, hq, k⟩ := wv_ex k
  simp only [hu, hv, hp, hq, wv_some]; exact k
 | mks e es bytes z a c =>
  dsimp only [jstep] at k; dsimp only [istep]
  obtain ⟨u, hu, k⟩ := wv_ex (jx_ev f k)
  obtain ⟨v, hv, k⟩ := wv_ex (jx_ev f k)
  obtain ⟨p, hp, k⟩ := wv_ex (jmks_sound k)
  obtain ⟨q, hq, k⟩ := wv_ex k
  simp only [hu, hv, hp, hq, wv_some]; exact k
 | pan x =>
  dsimp only [jstep] at k; dsimp only [istep]
  exact jx_ev' f k fun x k => by cases x <;> exact k
 | aidx row n es x i => dsimp only [jstep] at k; dsimp only [istep]; exact jx_ev' f k fun x k => jx_ev' f k fun i k => jaidx_sound k
 | slcp n es x lo hi => dsimp only [jstep] at k; dsimp only [istep]; exact jx_ev' f k fun x k => wv_mono (jxo_ev f k) fun lo k => wv_mono (jxo_ev f k) fun hi k => k
 | tas t z ok x => dsimp only [jstep] at k; dsimp only [istep]; exact jx_ev' f k fun x k => k
 | inil ne x => dsimp only [jstep] at k; dsimp only [istep]; exact jx_ev' f k fun x k => k
theorem istep_mono {i : I} {K K' : AOut → AH → Prop} (k : istep P G fr h i K) (hk : ∀ o h', K o h' → K' o h') : istep P G fr h i K' := by
 cases i with
 | gen o =>
  rcases k with k | ⟨x, v, b, h1, h2, h3, k⟩ | ⟨ne, x, n, cs, h1, h2, k⟩
  ·exact .inl (wv_mono k fun p => hk _ _)
  ·exact .inr (.inl ⟨x, v, b, h1, h2, h3, hk _ _ k⟩)
  ·exact .inr (.inr ⟨ne, x, n, cs, h1, h2, fun b hb => hk _ _ (k b hb)⟩)
 | mov x => exact wv_mono k fun p => hk _ _
 | pick c a b => exact wv_mono k fun c k => wv_mono k fun t k => ⟨fun e => wv_mono (k.1 e) fun p => hk _ _, fun e => wv_mono (k.2 e) fun p => hk _ _⟩
 | bin op x y => exact wv_mono k fun x k => wv_mono k fun y k => wv_mono k fun z => hk _ _
 | not x => exact wv_mono k fun x k => wv_mono k fun y k => hk _ _ k
 | cvt kd x => exact wv_mono k fun x k => wv_mono k fun y k => hk _ _ k
 | fadr off x => exact wv_mono k fun x k => wv_mono k fun y k => hk _ _ k
 | fld row off x => exact wv_mono k fun x k => wv_mono k fun y k => hk _ _ k
 | iasl es x i => exact wv_mono k fun x k => wv_mono k fun y k => wv_mono k fun y k => hk _ _ k
 | iaar n es x i => exact wv_mono k fun x k => wv_mono k fun y k => wv_mono k fun y k => hk _ _ k
 | idxs x i => exact wv_mono k fun x k => wv_mono k fun y k => wv_mono k fun y k => hk _ _ k
 | slc es x lo hi => exact wv_mono k fun x k => wv_mono k fun y k => wv_mono k fun y k => wv_mono k fun y k => hk _ _ k
 | slcs x lo hi => exact wv_mono k fun x k => wv_mono k fun y k => wv_mono k fun y k => wv_mono k fun y k => hk _ _ k
 | ext x i =>
  refine wv_mono k fun x k => ?_
  cases x with
  | tup vs => exact wv_mono k fun y k => hk _ _ k
  | _ => exact k.elim
 | mki t x => exact wv_mono k fun x k => hk _ _ k
 | mkf g first cap => exact wv_mono k fun x k => wv_mono k fun x k => hk _ _ k
 | load row x => exact wv_mono k fun x k => wv_mono k fun x k => hk _ _ k
 | lenl x => exact wv_mono k fun x k => wv_mono k fun x k => hk _ _ k
 | lens x => exact wv_mono k fun x k => wv_mono k fun x k => hk _ _ k
 | box t x => exact wv_mono k fun x k => ⟨k.1, hk _ _ k.2⟩
 | alloc t cs => exact hk _ _ k
 | build z ps => exact wv_mono k fun x k => hk _ _ k
 | bsl n es z ps => exact wv_mono k fun x k => ⟨k.1, hk _ _ k.2⟩
 | mkmap => exact hk _ _ k
 | lookup kind zero ok m kk => exact wv_mono k fun x k => wv_mono k fun x k => wv_mono k fun x k => hk _ _ k
 | mapup kind m kk x => exact wv_mono k fun x k => wv_mono k fun x k => wv_mono k fun x k => wv_mono k fun x k => hk _ _ k
 | store size p x => exact wv_mono k fun x k => wv_mono k fun x k => wv_mono k fun x k => hk _ _ k
 | app es bytes a b => exact wv_mono k fun x k => wv_mono k fun x k => wv_mono k fun x k => hk _ _ k
 | call g xs => exact wv_mono k fun x k => k.mono hk
 | callv g xs =>
  refine wv_mono k fun g k => wv_mono k fun xs k => ?_
  cases g with
  | fn g first cap => cases g with
   | func g => exact ⟨k.1, k.2.mono hk⟩
   | _ => exact k.elim
  | yld ob => exact k.mono hk
  | _ => exact k.elim
 | inv m r xs =>
  refine wv_mono k fun g k => wv_mono k fun xs k => ?_
  cases g with
  | ifc t y => exact wv_mono k fun g k => k.mono hk
  | _ => exact k.elim
 | nchk x => exact wv_mono k fun x k => ⟨k.1, hk _ _ k.2⟩
 | beq ne x y => exact wv_mono k fun x k => wv_mono k fun x k => wv_mono k fun x k => wv_mono k fun x k => hk _ _ k
 | beqA ne x y => exact wv_mono k fun x k => wv_mono k fun x k => wv_mono k fun x k => wv_mono k fun x k => hk _ _ k
 | mx mn x y => exact wv_mono k fun x k => wv_mono k fun x k => wv_mono k fun x k => wv_mono k fun x k => hk _ _ k
 | mks e es bytes z a c => exact wv_mono k fun x k => wv_mono k fun x k => wv_mono k fun x k => wv_mono k fun x k => wv_mono k fun x k => hk _ _ k
 | pan x =>
  refine wv_mono k fun x k => ?_
  cases x with
  | ifc t y => exact hk _ _ k
  | _ => exact k.elim
 | aidx row n es x i => exact wv_mono k fun x k => wv_mono k fun x k => wv_mono k fun x k => hk _ _ k
 | slcp n es x lo hi => exact wv_mono k fun x k => wv_mono k fun x k => wv_mono k fun x k => wv_mono k fun x k => hk _ _ k
 | tas t z ok x => exact wv_mono k fun x k => wv_mono k fun x k => hk _ _ k
 | inil ne x => exact wv_mono k fun x k => wv_mono k fun x k => hk _ _ k
theorem jput_sound {N : Nat} {d : Option Nat} {x : AV} {K : L → Prop} {K' : Fr → Prop} (hd : (match d with | none => true | some d => decide (d < N)) = true) (f : FR N fr l) (k : jput l d x K) (hk : ∀ fr' l', FR N fr' l' → K l' → K' fr') : wput fr d x K' := by
 cases d with
 | none => exact hk _ _ f k
 | some d => exact ⟨by rw [f.1]; simpa using hd, hk _ _ (f.set d x) k⟩
theorem jg_sound {N : Nat} {g : Option (Nat × Bool)} {A B : L → Prop} {A' B' : Prop} (hg : (match g with | none => true | some (t, _) => decide (t < N)) = true) (f : FR N fr l) (k : jg l g A B) (ha : ∀ l', FR N fr l' → A l' → A') (hb : ∀ l', FR N fr l' → B l' → B') : gq fr g A' B' := by
 cases g with
 | none => exact ha _ f k
 | some p =>
  obtain ⟨t, want⟩ := p
  refine ⟨by rw [f.1]; simpa using hg, ?_⟩
  unfold jg at k
  simp only at k
  rw [f.2 t]
  split at k
  ·rename_i c hc
   have f' : ∀ b, c = b → FR N fr ((t, .v (.bool b)) :: l) := fun b e => ⟨f.1, fun i => by
    simp only [lk]
    by_cases hi : i = t
    ·subst hi; rw [if_pos rfl, f.2, hc, e]
    ·rw [if_neg hi]; exact f.2 i⟩
   simp only [hc]
   cases want with
   | true => exact ⟨fun e => ha _ (f' _ e) (k.1 e), fun e => hb _ (f' _ e) (k.2 e)⟩
   | false => exact ⟨fun e => hb _ (f' _ e) (k.1 e), fun e => ha _ (f' _ e) (k.2 e)⟩
  ·rename_i a hc
   simp only [hc]
   exact hb _ f k
  ·exact k.elim
theorem okOps_cons {N : Nat} {o : IOp} {r : List IOp} (h : okOps N (o :: r) = true) : (match o.d with | none => true | some d => decide (d < N)) = true ∧ (match o.g with | none => true | some (t, _) => decide (t < N)) = true ∧ okOps N r = true := by
 unfold okOps at h ⊢
 simp only [List.all_cons, Bool.and_eq_true] at h
 exact ⟨h.1.1, h.1.2, h.2⟩
theorem jops_sound {N : Nat} : ∀ (ops : List IOp) {fr : Fr} {l : L} {h : AH} {Q : Option AV → L → JH → Prop} {Q' : Option AV → Fr → AH → Prop}, okOps N ops = true → FR N fr l → jops P G ops l h.j Q →
  (∀ x fr' l' h', FR N fr' l' → Q x l' h'.j → Q' x fr' h') → wops P G ops fr h Q'
 | [], fr, l, h, Q, Q', ho, f, k, hq => hq _ _ _ _ f k
 | o :: r, fr, l, h, Q, Q', ho, f, k, hq => by
  obtain ⟨hd, hg, hr⟩ := okOps_cons ho
  simp only [jops] at k
  simp only [wops]
  refine jg_sound hg f k ?_ ?_
  ·intro l' f' k
   refine istep_mono (jstep_sound f' k) ?_
   intro out h' k
   cases out with
   | ret x => dsimp only [joutK] at k; exact jput_sound hd f' k fun fr2 l2 f2 k => jops_sound r hr f2 k hq
   | pan x => exact hq _ _ _ _ f' k
  ·intro l' f' k
   exact jput_sound hd f' k fun fr2 l2 f2 k => jops_sound r hr f2 k hq
theorem R.ext {B0 : Nat} {μ : Mu} {h h' : AH} {w : World} (e : h.j = h'.j) (r : R B0 G μ h w) : R B0 G μ h' w := by
 have e1 : h.next = h'.next := congrArg JH.next e
 have e2 : h.get = h'.get := congrArg JH.get e
 have e3 : h.tnext = h'.tnext := congrArg JH.tnext e
 have e4 : h.tok = h'.tok := congrArg JH.tok e
 exact ⟨r.base, fun o b q => by rw [← e2]; exact r.obj o b q, r.inj, r.com, fun t i q => by rw [← e4]; exact r.tok t i q, r.tinj, r.sep, by rw [← e1]; exact r.next, by rw [← e3]; exact r.tnext, r.glob⟩
theorem Step.ext {B0 : Nat} {μ μ' : Mu} {h h1 h2 : AH} {w w' : World} (e : h1.j = h2.j) (s : Step B0 G μ h w μ' h1 w') : Step B0 G μ h w μ' h2 w' := by
 have e1 : h1.next = h2.next := congrArg JH.next e
 have e3 : h1.tnext = h2.tnext := congrArg JH.tnext e
 exact ⟨s.le, s.r.ext e, s.size, s.keep, s.com, by rw [← e1]; exact s.next, by rw [← e3]; exact s.tnext, s.newo, s.newt, s.newc, s.env⟩
theorem CALL.ext {f : FuncId} {args : List AV} {Q : AOut → AH → Prop} (c : CALL P G f args h Q) : CALL P G f args h fun o k => ∃ h', Q o h' ∧ k = h'.j.a :=
 fun B0 μ w vs r hv => (c B0 μ w vs r hv).mono fun _ _ ⟨o, h', q, μ', st, p⟩ => ⟨o, h'.j.a, ⟨h', q, rfl⟩, μ', Step.ext (JH.a_j h'.j).symm st, p⟩
theorem jdstep_sound {N : Nat} {i : I} {K : AV → JH → Prop} {K' : AV → AH → Prop} (f : FR N fr l) (k : jdstep P G l h.j i K) (hk : ∀ x h', K x h'.j → K' x h') : idstep P G fr h i K' := by
 have gen : jstep P G l h.j i (joutK K fun _ _ => False) → istep P G fr h i (outK K' fun _ _ => False) := fun k =>
  istep_mono (jstep_sound f k) fun o h' k => by
   cases o with
   | ret x => exact hk _ _ k
   | pan x => exact k
 have cal : ∀ g xs, (∃ x j', JC P G g xs h.j (fun o k => o = .ret x ∧ k = j') ∧ K x j') → ∃ x h', CALL P G g xs h (fun o k => o = .ret x ∧ k = h') ∧ K' x h' := by
  rintro g xs ⟨x, j', k1, k2⟩
  exact ⟨x, j'.a, k1.use.ext.mono fun o h' ⟨h2, ⟨e1, e2⟩, e3⟩ => ⟨e1, by rw [e3, e2]⟩, hk _ _ k2⟩
 cases i with
 | call g xs =>
  dsimp only [jdstep] at k; dsimp only [idstep]
  exact wv_mono (jxs_ev f k) fun xs k => cal _ _ k
 | callv g xs =>
  dsimp only [jdstep] at k; dsimp only [idstep]
  refine jx_ev' f k fun g k => wv_mono (jxs_ev f k) fun xs k => ?_
  cases g with
  | fn g first cap => cases g with
   | func g => exact ⟨k.1, cal _ _ k.2⟩
   | _ => exact k.elim
  | _ => exact k.elim
 | inv m r xs =>
  dsimp only [jdstep] at k; dsimp only [idstep]
  refine jx_ev' f k fun r k => wv_mono (jxs_ev f k) fun xs k => ?_
  cases r with
  | ifc t y => exact wv_mono k fun g k => cal _ _ k
  | _ => exact k.elim
 | gen o =>
  obtain ⟨x, e, q⟩ := k
  exact ⟨x, e _ _ f.2 rfl, hk _ _ q⟩
 | _ => exact gen k
def DEnt.j (e : DEnt) : JEnt := ⟨e.ex, e.touch, e.hb.j, e.ha.j⟩
theorem jtouch_eq {N : Nat} {x : Option X} (f : FR N fr l) : touchX G fr x = jtouch l x := by
 cases x with
 | none => rfl
 | some x =>
  cases x with
  | r t => simp only [touchX, Option.bind_some, X.ev, f.2, jtouch]; cases lk l t <;> rfl
  | k v => simp only [touchX, Option.bind_some, X.ev, jtouch]; cases v <;> rfl
  | g i =>
   simp only [touchX, Option.bind_some, X.ev, jtouch]
   cases G i <;> rfl
theorem jdraw_sound {N : Nat} : ∀ (ops : List IOp) {fr : Fr} {l : L} {h : AH} {es : List DEnt} {Q : L → JH → List JEnt → Prop} {Q' : Fr → AH → List DEnt → Prop}, okOps N ops = true → FR N fr l → jdraw P G ops l h.j (es.map DEnt.j) Q →
  (∀ fr' l' h' es', FR N fr' l' → Q l' h'.j (es'.map DEnt.j) → Q' fr' h' es') → wdraw P G ops fr h es Q'
 | [], fr, l, h, es, Q, Q', ho, f, k, hq => hq _ _ _ _ f k
 | o :: r, fr, l, h, es, Q, Q', ho, f, k, hq => by
  obtain ⟨hd, hg, hr⟩ := okOps_cons ho
  simp only [jdraw] at k
  simp only [wdraw]
  refine jg_sound hg f k ?_ ?_
  ·intro l' f' k
   refine jdstep_sound f' k ?_
   intro x h' k
   refine jput_sound hd f' k fun fr2 l2 f2 k => jdraw_sound r hr f2 ?_ hq
   rw [List.map_append, List.map_cons, List.map_nil]
   unfold DEnt.j
   rw [jtouch_eq f']; exact k
  ·intro l' f' k
   refine jput_sound hd f' k fun fr2 l2 f2 k => jdraw_sound r hr f2 ?_ hq
   rw [List.map_append, List.map_cons, List.map_nil]
   unfold DEnt.j
   rw [jtouch_eq f']; exact k
theorem jdrawOk_sound {pairs : List (Nat × Nat)} {es : List DEnt} (k : jdrawOk pairs (es.map DEnt.j)) : drawOk pairs es := by
 refine ⟨fun e he => k.1 e.j (List.mem_map.2 ⟨e, he, rfl⟩), fun p hp => ?_⟩
 have := k.2 p hp
 unfold jpairOk at this
 unfold pairOk
 simp only [List.getElem?_map] at this
 cases h1 : es[p.1]? with
 | none => simp
 | some e1 =>
  cases h2 : es[p.2]? with
  | none => simp
  | some e2 => rw [h1, h2] at this; exact this
theorem JDropH.a {hs : AH} {h' : AH} {j'' : JH} (d : JDropH hs.j h'.j j'') : DropH hs h' j''.a := ⟨d.lo, d.hi, d.tlo, d.thi, d.obj, d.tok⟩
theorem JDropW.a {hs : AH} {h' : AH} {j'' : JH} (d : JDropW hs.j h'.j j'') : DropW hs h' j''.a := d.imp (fun d => d.a) fun e => by subst e; exact ⟨rfl, rfl, rfl, rfl⟩
theorem wdraw_mono : ∀ (ops : List IOp) {fr : Fr} {h : AH} {es : List DEnt} {Q Q' : Fr → AH → List DEnt → Prop}, wdraw P G ops fr h es Q → (∀ fr h es, Q fr h es → Q' fr h es) → wdraw P G ops fr h es Q' := by
 intro ops
 induction ops with
 | nil => intro fr h es Q Q' k hk; exact hk _ _ _ k
 | cons o r ih =>
  intro fr h es Q Q' k hk
  have hput : ∀ {fr : Fr} {x : AV} {K K' : Fr → Prop}, wput fr o.d x K → (∀ fr, K fr → K' fr) → wput fr o.d x K' := by
   intro fr x K K' k hk
   cases hd : o.d with
   | none => rw [hd] at k; exact hk _ k
   | some d => rw [hd] at k; exact ⟨k.1, hk _ k.2⟩
  have hgq : ∀ {fr : Fr} {A B A' B' : Prop}, gq fr o.g A B → (A → A') → (B → B') → gq fr o.g A' B' := by
   intro fr A B A' B' k ha hb
   cases hd : o.g with
   | none => rw [hd] at k; exact ha k
   | some p =>
    obtain ⟨t, want⟩ := p
    rw [hd] at k
    refine ⟨k.1, ?_⟩
    have k := k.2
    split at k
    ·cases want with
     | true => exact ⟨fun q => ha (k.1 q), fun q => hb (k.2 q)⟩
     | false => exact ⟨fun q => hb (k.1 q), fun q => ha (k.2 q)⟩
    ·exact hb k
    ·exact k.elim
  have hid : ∀ {i : I} {fr : Fr} {h : AH} {K K' : AV → AH → Prop}, idstep P G fr h i K → (∀ x h, K x h → K' x h) → idstep P G fr h i K' := by
   intro i fr h K K' k hk
   have gen : istep P G fr h i (outK K fun _ _ => False) → istep P G fr h i (outK K' fun _ _ => False) := fun k =>
    istep_mono k fun o h' k => by
     cases o with
     | ret x => exact hk _ _ k
     | pan x => exact k
   cases i with
   | call g xs =>
    dsimp only [idstep] at k ⊢
    exact wv_mono k fun xs ⟨x, h', k1, k2⟩ => ⟨x, h', k1, hk _ _ k2⟩
   | callv g xs =>
    dsimp only [idstep] at k ⊢
    refine wv_mono k fun g k => wv_mono k fun xs k => ?_
    cases g with
    | fn g first cap => cases g with
     | func g =>
      obtain ⟨k0, x, h', k1, k2⟩ := k
      exact ⟨k0, x, h', k1, hk _ _ k2⟩
     | _ => exact k.elim
    | _ => exact k.elim
   | inv m r xs =>
    dsimp only [idstep] at k ⊢
    refine wv_mono k fun g k => wv_mono k fun xs k => ?_
    cases g with
    | ifc t y => exact wv_mono k fun g ⟨x, h', k1, k2⟩ => ⟨x, h', k1, hk _ _ k2⟩
    | _ => exact k.elim
   | gen o =>
    obtain ⟨x, e, q⟩ := k
    exact ⟨x, e, hk _ _ q⟩
   | _ => exact gen k
  simp only [wdraw] at k ⊢
  refine hgq k ?_ ?_
  ·intro k
   exact hid k fun x h k => hput k fun fr k => ih k hk
  ·intro k; exact hput k fun fr k => ih k hk
theorem iwp_mono : ∀ (ir : IR) {fr : Fr} {h : AH} {Q Q' : AX → Fr → AH → Prop}, iwp P G ir fr h Q → (∀ x fr h, Q x fr h → Q' x fr h) → iwp P G ir fr h Q' := by
 have hops : ∀ (ops : List IOp) {fr : Fr} {h : AH} {Q Q' : Option AV → Fr → AH → Prop}, wops P G ops fr h Q → (∀ x fr h, Q x fr h → Q' x fr h) → wops P G ops fr h Q' := by
  intro ops
  induction ops with
  | nil => intro fr h Q Q' k hk; exact hk _ _ _ k
  | cons o r ih =>
   intro fr h Q Q' k hk
   have hput : ∀ {fr : Fr} {x : AV} {K K' : Fr → Prop}, wput fr o.d x K → (∀ fr, K fr → K' fr) → wput fr o.d x K' := by
    intro fr x K K' k hk
    cases hd : o.d with
    | none => rw [hd] at k; exact hk _ k
    | some d => rw [hd] at k; exact ⟨k.1, hk _ k.2⟩
   have hgq : ∀ {fr : Fr} {A B A' B' : Prop}, gq fr o.g A B → (A → A') → (B → B') → gq fr o.g A' B' := by
    intro fr A B A' B' k ha hb
    cases hd : o.g with
    | none => rw [hd] at k; exact ha k
    | some p =>
     obtain ⟨t, want⟩ := p
     rw [hd] at k
     refine ⟨k.1, ?_⟩
     have k := k.2
     split at k
     ·cases want with
      | true => exact ⟨fun q => ha (k.1 q), fun q => hb (k.2 q)⟩
      | false => exact ⟨fun q => hb (k.1 q), fun q => ha (k.2 q)⟩
     ·exact hb k
     ·exact k.elim
   simp only [wops] at k ⊢
   refine hgq k ?_ ?_
   ·intro k
    refine istep_mono k ?_
    intro out h' k
    cases out with
    | ret x => dsimp only [outK] at k ⊢; exact hput k fun fr k => ih k hk
    | pan x => exact hk _ _ _ k
   ·intro k; exact hput k fun fr k => ih k hk
 intro ir
 induction ir with
 | bad => intro fr h Q Q' k hk; exact k
 | dfr => intro fr h Q Q' k hk; exact k
 | rcv => intro fr h Q Q' k hk; exact k
 | skip => intro fr h Q Q' k hk; exact hk _ _ _ k
 | exit id => intro fr h Q Q' k hk; exact hk _ _ _ k
 | ret => intro fr h Q Q' k hk; exact hk _ _ _ k
 | reg ops => intro fr h Q Q' k hk; exact hops ops k fun x fr h k => by cases x <;> exact hk _ _ _ k
 | draw ops pairs => intro fr h Q Q' k hk; exact wdraw_mono ops k fun fr h es k => ⟨k.1, hk _ _ _ k.2⟩
 | drawP ops pairs p =>
  intro fr h Q Q' k hk
  refine k.imp (fun k => wdraw_mono ops k fun fr h es k => ⟨k.1, hk _ _ _ k.2⟩) fun k => wdraw_mono _ k fun fr h es k => ⟨k.1, ?_⟩
  have k := k.2
  unfold idpan at k ⊢
  split at k
  ·exact wv_mono k fun xs ⟨x, h', k1, k2⟩ => ⟨x, h', k1, hk _ _ _ k2⟩
  ·exact k.elim
 | seq a b iha ihb =>
  intro fr h Q Q' k hk
  exact iha k fun x fr h k => by
   cases x with
   | norm => exact ihb k hk
   | _ => exact hk _ _ _ k
 | cond x a b iha ihb =>
  intro fr h Q Q' k hk
  exact wv_mono k fun c k => wv_mono k fun t k => ⟨fun e => iha (k.1 e) hk, fun e => ihb (k.2 e) hk⟩
 | block id a ih =>
  intro fr h Q Q' k hk
  exact ih k fun x fr h k => by
   cases x with
   | exit i =>
    simp only [blockQ] at k ⊢
    split at k
    ·rename_i e; rw [if_pos e]; exact hk _ _ _ k
    ·rename_i e; rw [if_neg e]; exact hk _ _ _ k
   | _ => exact hk _ _ _ k
 | loop a ih =>
  intro fr h Q Q' k hk
  obtain ⟨J, h0, hs⟩ := k
  exact ⟨J, h0, fun n fr1 h1 hi => ih (hs n fr1 h1 hi) fun x fr h k => by
   cases x with
   | norm => exact k
   | _ => exact hk _ _ _ k⟩
 | orc c =>
  intro fr h Q Q' k hk nb
  exact (k nb).mono hk
 | rng x ps ca cb a b iha ihb =>
  intro fr h Q Q' k hk
  refine wv_mono k fun g k => ?_
  split at k
  ·refine ⟨k.1, fun h1 h2 => (k.2 h1 h2).mono fun o h' q => ?_⟩
   cases o with
   | pan x => exact q.elim
   | ret x =>
    obtain ⟨fr1, st, pe, ps1, ca1, cb1, g1, g2, g3⟩ := q
    refine ⟨fr1, st, pe, ps1, ca1, cb1, g1, g2, ?_⟩
    cases pe with
    | none => exact hk _ _ _ g3
    | some c => cases c <;> first | exact hk _ _ _ g3 | exact g3.elim
  ·exact k.elim
theorem FR.forget {N : Nat} {fr : Fr} {l : L} (f : FR N fr l) (ds : List Nat) : FR N (forget fr ds) (lforget l ds) := by
 refine ⟨f.1, fun i => ?_⟩
 rw [forget_get]
 unfold lforget
 induction ds with
 | nil => simp [f.2]
 | cons d ds ih =>
  simp only [List.map_cons, List.cons_append, lk, List.mem_cons]
  by_cases h : i = d
  ·rw [if_pos (.inl h), if_pos h]
  ·rw [if_neg h, ← ih]
   by_cases h2 : i ∈ ds
   ·rw [if_pos (.inr h2), if_pos h2]
   ·rw [if_neg (by simp [h, h2]), if_neg h2]
theorem okOps_take {N : Nat} {ops : List IOp} (p : Nat) (h : okOps N ops = true) : okOps N (ops.take p) = true := by
 unfold okOps at h ⊢
 rw [List.all_eq_true] at h ⊢
 exact fun o ho => h o (List.mem_of_mem_take ho)
theorem jdpan_sound {N : Nat} {fr : Fr} {h : AH} {l : L} {o : Option IOp} {K : AV → JH → Prop} {K' : AV → AH → Prop} (f : FR N fr l) (k : jdpan P G l h.j o K) (hk : ∀ x h', K x h'.j → K' x h') : idpan P G fr h o K' := by
 unfold jdpan at k
 unfold idpan
 split at k
 ·exact wv_mono (jxs_ev f k) fun xs ⟨x, j', k1, k2⟩ => ⟨x, j'.a, k1.use.ext.mono fun o h' ⟨h2, ⟨e1, e2⟩, e3⟩ => ⟨e1, by rw [e3, e2]⟩, hk _ _ k2⟩
 ·exact k.elim
theorem jwp_sound {N : Nat} : ∀ (ir : IR) {fr : Fr} {l : L} {h : AH} {Q : AX → L → JH → Prop}, okIR N ir = true → FR N fr l → jwp P G ir l h.j Q → iwp P G ir fr h (JQ N Q) := by
 intro ir
 induction ir with
 | bad => intro fr l h Q ho f k; exact k
 | dfr => intro fr l h Q ho f k; exact k
 | rcv => intro fr l h Q ho f k; exact k
 | skip => intro fr l h Q ho f k; exact ⟨l, f, k⟩
 | exit id => intro fr l h Q ho f k; exact ⟨l, f, k⟩
 | ret => intro fr l h Q ho f k; exact ⟨l, f, k⟩
 | reg ops => intro fr l h Q ho f k; exact jops_sound ops ho f k fun x fr' l' h' f' k => by cases x <;> exact ⟨l', f', k⟩
 | draw ops pairs =>
  intro fr l h Q ho f k
  exact jdraw_sound (es := []) ops ho f k fun fr' l' h' es f' k => ⟨jdrawOk_sound k.1, l', f', k.2⟩
 | drawP ops pairs p =>
  intro fr l h Q ho f k
  refine k.imp (fun k => jdraw_sound (es := []) ops ho f k fun fr' l' h' es f' k => ⟨jdrawOk_sound k.1, l', f', k.2⟩)
   fun k => jdraw_sound (es := []) _ (okOps_take p ho) f k fun fr' l' h' es f' k => ⟨jdrawOk_sound k.1, jdpan_sound f' k.2 fun x h' q => ⟨_, f.forget _, q⟩⟩
 | seq a b iha ihb =>
  intro fr l h Q ho f k
  simp only [okIR, Bool.and_eq_true] at ho
  exact iwp_mono a (iha ho.1 f (show jwp P G a l h.j _ from k)) fun x fr h ⟨l', f', k⟩ => by
   cases x with
   | norm => exact ihb ho.2 f' k
   | _ => exact ⟨l', f', k⟩
 | cond x a b iha ihb =>
  intro fr l h Q ho f k
  simp only [okIR, Bool.and_eq_true] at ho
  exact jx_ev' f k fun c k => wv_mono (jbool_sound k) fun t k => ⟨fun e => iha ho.1 f (k.1 e), fun e => ihb ho.2 f (k.2 e)⟩
 | block id a ih =>
  intro fr l h Q ho f k
  exact iwp_mono a (ih ho f (show jwp P G a l h.j _ from k)) fun x fr h ⟨l', f', k⟩ => by
   cases x with
   | exit i =>
    simp only [jblock] at k
    simp only [blockQ]
    split at k
    ·rename_i e; rw [if_pos e]; exact ⟨l', f', k⟩
    ·rename_i e; rw [if_neg e]; exact ⟨l', f', k⟩
   | _ => exact ⟨l', f', k⟩
 | loop a ih =>
  intro fr l h Q ho f k
  obtain ⟨J, ⟨n0, l0, j0, d1, d2, hi0⟩, hs⟩ := k
  refine ⟨fun n fr h => ∃ l, FR N fr l ∧ J n l h.j, ⟨n0, mkFr N l0, j0.a, ⟨f.1.symm ▸ rfl, .inl fun i => by rw [f.2, (mkFr_FR N l0).2]; exact d1 i, .inl d2.a⟩, l0, mkFr_FR N l0, hi0⟩, ?_⟩
  rintro n fr1 h1 ⟨l1, f1, hi1⟩
  refine iwp_mono a (ih ho f1 (hs n l1 h1.j hi1)) fun x fr' h' ⟨l', f', k⟩ => ?_
  cases x with
  | norm =>
   obtain ⟨m, l2, j2, hm, d1, d2, hi2⟩ := k
   exact ⟨m, mkFr N l2, j2.a, hm, ⟨f'.1.symm ▸ rfl, .inl fun i => by rw [f'.2, (mkFr_FR N l2).2]; exact d1 i, d2.a⟩, l2, mkFr_FR N l2, hi2⟩
  | _ => exact ⟨l', f', k⟩
 | orc c =>
  intro fr l h Q ho f k nb
  exact k N fr h nb (of_decide_eq_true ho) f rfl
 | rng x ps ca cb a b iha ihb =>
  intro fr l h Q ho f k
  simp only [okIR, Bool.and_eq_true] at ho
  obtain ⟨⟨ho1, ho2⟩, ho3⟩ := ho
  refine jx_ev' f k fun g k => ?_
  split at k
  ·refine ⟨k.1, fun h1 h2 => ?_⟩
   have hN := f.1
   refine (k.2 fr f.2 (fun p hp => by rw [hN]; simpa using List.all_eq_true.1 ho1 p hp) (fun fr' l' h Q f' kj => h1 _ _ _ (by rw [hN] at f' ⊢; exact iha ho2 f' kj)) (fun fr' l' h Q f' kj => h2 _ _ _ (by rw [hN] at f' ⊢; exact ihb ho3 f' kj)) (h.push (.loop fr .ready none ps ca cb)) (AH.j_push _ _)).mono fun o h' q => ?_
   cases o with
   | pan x => exact q.elim
   | ret x =>
    obtain ⟨fr1, st, pe, ps1, ca1, cb1, g1, g2, g3⟩ := q
    refine ⟨fr1, st, pe, ps1, ca1, cb1, g1, g2, ?_⟩
    cases pe with
    | none => exact ⟨l, f, by rw [AH.j_set]; exact g3⟩
    | some c => cases c <;> first | exact ⟨l, f, by rw [AH.j_set]; exact g3⟩ | exact g3.elim
  ·exact k.elim
theorem jress_sound {N : Nat} : ∀ {rs : List IRes} {K : List AV → Prop}, FR N fr l → jress l h.j rs K → wv (iress fr h rs) K
 | [], K, f, k => k
 | r :: rs, K, f, k => by
  simp only [jress] at k
  simp only [iress, ires]
  split at k
  ·rename_i hc
   obtain ⟨xs, hx, k⟩ := wv_ex (jress_sound f k)
   rw [hc]; simp only [hx, f.2, wv_some]; exact k
  ·rename_i row hc
   obtain ⟨y, hy, k⟩ := wv_ex (jload_sound k)
   obtain ⟨xs, hx, k⟩ := wv_ex (jress_sound f k)
   rw [hc]
   rw [AH.j_get, ← f.2] at hy
   simp only [hx, hy, wv_some]; exact k
theorem JC.of_ir (hmix : P.follows .mixedOrders = true) {f : FuncId} {k : IFn} (hf : cfunc P f = some k) {args : List AV} (hok : okIR (max args.length k.n) k.ir = true) {j : JH} {Q : AOut → JH → Prop}
  (hw : jwp P G k.ir (args0 0 args) j (jend k.rs j Q)) : JC P G f args j Q := by
 rintro h rfl
 refine CALL.of_ir hmix hf (iwp_mono k.ir (jwp_sound (N := max args.length k.n) k.ir hok ⟨rfl, fun i => ?_⟩ hw) ?_)
 ·rw [Fr.get_ofArgs, lk_args0, if_pos (Nat.zero_le _), List.getD_eq_getElem?_getD]; rfl
 ·rintro x fr' h' ⟨l', f', k⟩
  cases x with
  | norm => exact wv_mono (jress_sound f' (show jress l' h'.j _ _ from k)) fun xs ⟨y, j'', d, s, q⟩ => ⟨y, j''.a, d.a, s, q⟩
  | ret => exact wv_mono (jress_sound f' (show jress l' h'.j _ _ from k)) fun xs ⟨y, j'', d, s, q⟩ => ⟨y, j''.a, d.a, s, q⟩
  | exit j => exact k
  | pan v => obtain ⟨y, j'', d, s, q⟩ := k; exact ⟨y, j''.a, d.a, s, q⟩
theorem JC.mono {f : FuncId} {args : List AV} {j : JH} {Q Q' : AOut → JH → Prop} (c : JC P G f args j Q) (hq : ∀ o j', Q o j' → Q' o j') : JC P G f args j Q' := fun h e => (c h e).mono fun _ _ => hq _ _
def jpushd (P : Program) (g : AV) (ds : List AV) (K : List AV → Prop) : Prop :=
 match g with
 | .fn (.func f) [] cap => hasBody P f = true ∧ K (.fn (.func f) [] cap :: ds)
 | _ => False
def jthenD (K : List AV → L → JH → Prop) (Q : List AV → AX → L → JH → Prop) : List AV → AX → L → JH → Prop
 | ds, .norm, l, j => K ds l j
 | ds, .exit i, l, j => Q ds (.exit i) l j
 | ds, .ret, l, j => Q ds .ret l j
 | ds, .pan x, l, j => Q ds (.pan x) l j
def jdfrQ (P : Program) (G : Nat → Option (List AV)) (x : X) (ds : List AV) (Q : List AV → AX → L → JH → Prop) : Option AV → L → JH → Prop
 | none, l, j => jx G l x fun g => jpushd P g ds fun ds' => Q ds' .norm l j
 | some p, l, j => Q ds (.pan p) l j
def jwpD (P : Program) (G : Nat → Option (List AV)) : IR → List AV → L → JH → (List AV → AX → L → JH → Prop) → Prop
 | .seq a b, ds, l, j, Q => jwpD P G a ds l j (jthenD (fun ds l j => jwpD P G b ds l j Q) Q)
 | .dfr ops x, ds, l, j, Q => jops P G ops l j (jdfrQ P G x ds Q)
 | a, ds, l, j, Q => jwp P G a l j (Q ds)
def JD (P : Program) (G : Nat → Option (List AV)) (g : FuncId) (args : List AV) (m : Option AV) (j : JH) (Q : Option AV → JH → Prop) : Prop :=
 ∀ h : AH, h.j = j → CALLD P G g args m h fun m' h' => Q m' h'.j
def jleave (P : Program) (G : Nat → Option (List AV)) (rs : List IRes) (j0 : JH) (Q : AOut → JH → Prop) (l : L) : List AV → Option AV → JH → Prop
 | [], none, j => jress l j rs fun xs => jfin j0 j (aret xs) fun y j' => Q (.ret y) j'
 | [], some x, j => jfin j0 j x fun y j' => Q (.pan y) j'
 | .fn (.func g) [] cap :: ds, m, j => JD P G g cap m j fun m' j' => jleave P G rs j0 Q l ds m' j'
 | _ :: _, _, _ => False
def jendD (P : Program) (G : Nat → Option (List AV)) (rs : List IRes) (j0 : JH) (Q : AOut → JH → Prop) : List AV → AX → L → JH → Prop
 | ds, .norm, l, j | ds, .ret, l, j => ds.all (fun d => match d with | .fn (.func g) _ _ => hasBody P g | _ => false) = true ∧ jleave P G rs j0 Q l ds none j
 | ds, .pan v, l, j => ds.all (fun d => match d with | .fn (.func g) _ _ => hasBody P g | _ => false) = true ∧ jleave P G rs j0 Q l ds (some v) j
 | _, .exit _, _, _ => False
theorem wops_mono {l : List IOp} {fr : Fr} {h : AH} {Q Q' : Option AV → Fr → AH → Prop} (k : wops P G l fr h Q) (hk : ∀ x fr h, Q x fr h → Q' x fr h) : wops P G l fr h Q' := by
 let q (Q : Option AV → Fr → AH → Prop) : AX → Fr → AH → Prop := fun x fr h => match x with | .norm => Q none fr h | .pan x => Q (some x) fr h | _ => False
 have e : ∀ Q : Option AV → Fr → AH → Prop, regQ (q Q) = Q := fun Q => by
  funext x fr h
  cases x <;> rfl
 have := iwp_mono (.reg l) (Q := q Q) (Q' := q Q') (show wops P G l fr h (regQ (q Q)) by rw [e]; exact k) (by
  intro x fr h k
  cases x <;> first | exact hk _ _ _ k | exact k)
 rw [← e Q']; exact this
theorem iwpD_mono : ∀ (ir : IR) {ds : List AV} {fr : Fr} {h : AH} {Q Q' : List AV → AX → Fr → AH → Prop}, iwpD P G ir ds fr h Q → (∀ ds x fr h, Q ds x fr h → Q' ds x fr h) → iwpD P G ir ds fr h Q'
 | .seq a b, ds, fr, h, Q, Q', k, hk => iwpD_mono a (show iwpD P G a ds fr h _ from k) fun ds x fr h k => by
   cases x with
   | norm => exact iwpD_mono b k hk
   | _ => exact hk _ _ _ _ k
 | .dfr l x, ds, fr, h, Q, Q', k, hk => wops_mono k fun o fr h k => by
   cases o with
   | none =>
    refine wv_mono k fun g k => ?_
    split at k
    ·exact ⟨k.1, hk _ _ _ _ k.2⟩
    ·exact k.elim
   | some p => exact hk _ _ _ _ k
 | .bad, ds, fr, h, Q, Q', k, hk => k
 | .rcv _ _, ds, fr, h, Q, Q', k, hk => k
 | .skip, ds, fr, h, Q, Q', k, hk => hk _ _ _ _ k
 | .exit _, ds, fr, h, Q, Q', k, hk => hk _ _ _ _ k
 | .ret, ds, fr, h, Q, Q', k, hk => hk _ _ _ _ k
 | .reg l, ds, fr, h, Q, Q', k, hk => iwp_mono (.reg l) k fun x fr h => hk _ _ _ _
 | .draw l p, ds, fr, h, Q, Q', k, hk => iwp_mono (.draw l p) k fun x fr h => hk _ _ _ _
 | .drawP l p i, ds, fr, h, Q, Q', k, hk => iwp_mono (.drawP l p i) k fun x fr h => hk _ _ _ _
 | .cond x a b, ds, fr, h, Q, Q', k, hk => iwp_mono (.cond x a b) k fun x fr h => hk _ _ _ _
 | .block i a, ds, fr, h, Q, Q', k, hk => iwp_mono (.block i a) k fun x fr h => hk _ _ _ _
 | .loop a, ds, fr, h, Q, Q', k, hk => iwp_mono (.loop a) k fun x fr h => hk _ _ _ _
 | .rng x ps ca cb a b, ds, fr, h, Q, Q', k, hk => iwp_mono (.rng x ps ca cb a b) k fun x fr h => hk _ _ _ _
 | .orc c, ds, fr, h, Q, Q', k, hk => iwp_mono (.orc c) k fun x fr h => hk _ _ _ _
def jrecQ (j : JH) (Q : Option AV → JH → Prop) : AX → L → JH → Prop
 | .norm, _, j' | .ret, _, j' => ∃ j'', JDropW j j' j'' ∧ Q none j''
 | _, _, _ => False
end
end Go.Proofs.YtcjlpklgnknpgaaGreatDoor.Pg
