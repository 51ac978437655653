/-
  Pg, part 16: data: numbers, strings, names, concepts, knowledge bases.
-/
import Derived.Test.YtkcbhebbjpiibaaDoorPgM
set_option linter.unusedVariables false
set_option linter.unusedSimpArgs false
set_option linter.unusedSectionVars false
set_option linter.defProp false
namespace Go.Proofs.YtkcbhebbjpiibaaDoor.Pg
open Go
section

abbrev I64 (n : Int) : AV := .v (.int .i64 n)
abbrev STR (s : ByteArray) : AV := .v (.string s)
abbrev BOO (b : Bool) : AV := .v (.bool b)
def ints (l : List Int) : List AV := l.map fun i => .v (.int .i64 i)
def strs (l : List ByteArray) : List AV := l.map fun i => .v (.string i)
def boos (l : List Bool) : List AV := l.map fun i => .v (.bool i)
inductive Con where
  | mk (op n : Int) (args : List Con)
instance : Inhabited Con := ⟨.mk 0 0 []⟩
def Con.op : Con → Int | .mk o _ _ => o
def Con.n : Con → Int | .mk _ n _ => n
def Con.args : Con → List Con | .mk _ _ l => l
mutual
def Con.enc : Con → List AV
  | .mk op n args => [.v (.int .i64 op), .v (.int .i64 n), .sl .none args.length (Con.encs args)]
def Con.encs : List Con → List AV
  | [] => []
  | c :: cs => c.enc ++ Con.encs cs
end
theorem Con.enc_eq (c : Con) : c.enc = [.v (.int .i64 c.op), .v (.int .i64 c.n), .sl .none c.args.length (Con.encs c.args)] := by
  cases c; simp [Con.enc, Con.op, Con.n, Con.args]
structure Nms where
  (cs rs is : List ByteArray)
def Nms.enc (n : Nms) : List AV := [.sl .none n.cs.length (strs n.cs), .sl .none n.rs.length (strs n.rs), .sl .none n.is.length (strs n.is)]
structure Inc where
  (sub sup : Con)
def Inc.enc (x : Inc) : List AV := x.sub.enc ++ x.sup.enc
structure RIn where
  (sub sup : Int)
def RIn.enc (x : RIn) : List AV := [.v (.int .i64 x.sub), .v (.int .i64 x.sup)]
structure Fac where
  (ind : Int) (con : Con)
def Fac.enc (x : Fac) : List AV := .v (.int .i64 x.ind) :: x.con.enc
structure Lnk where
  (role fr to : Int)
def Lnk.enc (x : Lnk) : List AV := [.v (.int .i64 x.role), .v (.int .i64 x.fr), .v (.int .i64 x.to)]
def encs {α : Type} (e : α → List AV) (l : List α) : List AV := l.flatMap e
theorem Con.encs_eq : ∀ l : List Con, Con.encs l = Pg.encs Con.enc l
  | [] => rfl
  | c :: l => by simp only [Con.encs, Pg.encs, List.flatMap_cons]; rw [Con.encs_eq l]; rfl
structure Bas where
  nms : Nms
  incls : List Inc
  roles : List RIn
  facts : List Fac
  links : List Lnk
def Bas.enc (b : Bas) : List AV := b.nms.enc ++ [.sl .none b.incls.length (encs Inc.enc b.incls), .sl .none b.roles.length (encs RIn.enc b.roles), .sl .none b.facts.length (encs Fac.enc b.facts), .sl .none b.links.length (encs Lnk.enc b.links)]

theorem Con.len (c : Con) : c.enc.length = 3 := by rw [Con.enc_eq]; rfl
theorem Nms.len (c : Nms) : c.enc.length = 3 := rfl
theorem Inc.len (c : Inc) : c.enc.length = 6 := by simp [Inc.enc, Con.len]
theorem RIn.len (c : RIn) : c.enc.length = 2 := rfl
theorem Fac.len (c : Fac) : c.enc.length = 4 := by simp [Fac.enc, Con.len]
theorem Lnk.len (c : Lnk) : c.enc.length = 3 := rfl
theorem Bas.len (c : Bas) : c.enc.length = 7 := rfl
section
variable {α : Type} {e : α → List AV} {n : Nat}
theorem encs_nil : encs e [] = [] := rfl
theorem encs_cons {x : α} {l : List α} : encs e (x :: l) = e x ++ encs e l := by simp [encs]
theorem encs_append {l m : List α} : encs e (l ++ m) = encs e l ++ encs e m := by simp [encs]
theorem encs_length (h : ∀ x, (e x).length = n) : ∀ l : List α, (encs e l).length = l.length * n
  | [] => by simp [encs]
  | x :: l => by rw [encs_cons, List.length_append, h, encs_length h l, List.length_cons, Nat.add_mul]; omega
theorem encs_drop (h : ∀ x, (e x).length = n) : ∀ (l : List α) (i : Nat), (encs e l).drop (i * n) = encs e (l.drop i)
  | l, 0 => by simp
  | [], i + 1 => by simp [encs]
  | x :: l, i + 1 => by
    rw [encs_cons, List.drop_succ_cons, ← encs_drop h l i, show (i + 1) * n = (e x).length + i * n from by rw [h, Nat.add_mul]; omega, ← List.drop_drop, List.drop_left]
theorem encs_take (h : ∀ x, (e x).length = n) : ∀ (l : List α) (i : Nat), (encs e l).take (i * n) = encs e (l.take i)
  | l, 0 => by simp [encs]
  | [], i + 1 => by simp [encs]
  | x :: l, i + 1 => by
    rw [encs_cons, List.take_succ_cons, encs_cons, ← encs_take h l i, show (i + 1) * n = (e x).length + i * n from by rw [h, Nat.add_mul]; omega, List.take_length_add_append]
end
theorem d_len1 {l : List Con} : (encs Con.enc l).length = l.length * 3 := encs_length Con.len l
theorem d_len2 {l : List Inc} : (encs Inc.enc l).length = l.length * 6 := encs_length Inc.len l
theorem d_len3 {l : List RIn} : (encs RIn.enc l).length = l.length * 2 := encs_length RIn.len l
theorem d_len4 {l : List Fac} : (encs Fac.enc l).length = l.length * 4 := encs_length Fac.len l
theorem d_len5 {l : List Lnk} : (encs Lnk.enc l).length = l.length * 3 := encs_length Lnk.len l
theorem d_len6 {l : List Int} : (ints l).length = l.length := by simp [ints]
theorem d_len7 {l : List ByteArray} : (strs l).length = l.length := by simp [strs]
theorem d_len8 {l : List Bool} : (boos l).length = l.length := by simp [boos]
theorem d_drop1 {l : List Con} {i : Nat} : (encs Con.enc l).drop (i * 3) = encs Con.enc (l.drop i) := encs_drop Con.len l i
theorem d_drop2 {l : List Inc} {i : Nat} : (encs Inc.enc l).drop (i * 6) = encs Inc.enc (l.drop i) := encs_drop Inc.len l i
theorem d_drop3 {l : List RIn} {i : Nat} : (encs RIn.enc l).drop (i * 2) = encs RIn.enc (l.drop i) := encs_drop RIn.len l i
theorem d_drop4 {l : List Fac} {i : Nat} : (encs Fac.enc l).drop (i * 4) = encs Fac.enc (l.drop i) := encs_drop Fac.len l i
theorem d_drop5 {l : List Lnk} {i : Nat} : (encs Lnk.enc l).drop (i * 3) = encs Lnk.enc (l.drop i) := encs_drop Lnk.len l i
theorem d_drop6 {l : List Int} {i : Nat} : (ints l).drop i = ints (l.drop i) := by simp [ints, List.map_drop]
theorem d_drop7 {l : List ByteArray} {i : Nat} : (strs l).drop i = strs (l.drop i) := by simp [strs, List.map_drop]
theorem d_drop8 {l : List Bool} {i : Nat} : (boos l).drop i = boos (l.drop i) := by simp [boos, List.map_drop]
theorem d_cons6 {x : Int} {l : List Int} : ints (x :: l) = .v (.int .i64 x) :: ints l := rfl
theorem d_cons7 {x : ByteArray} {l : List ByteArray} : strs (x :: l) = .v (.string x) :: strs l := rfl
theorem d_cons8 {x : Bool} {l : List Bool} : boos (x :: l) = .v (.bool x) :: boos l := rfl
theorem icut_drop {row : Option Nat} {cs : List AV} {k off : Nat} : icut row (cs.drop k) off = icut row cs (k + off) := by
  unfold icut; cases row <;> simp [List.drop_drop]
theorem icut_pre {n : Nat} {xs cs : List AV} (h : xs.length = n) : icut (some n) (xs ++ cs) 0 = some (.agg xs) := by
  unfold icut; simp [← h]
theorem icut_all {n : Nat} {xs : List AV} (h : xs.length = n) : icut (some n) xs 0 = some (.agg xs) := by
  have := icut_pre (cs := []) h; simpa using this
theorem icut_at {row : Option Nat} {xs cs : List AV} {k n : Nat} (h : xs.length = n) : icut row (xs ++ cs) (n + k) = icut row cs k := by
  unfold icut; subst h; cases row with
  | none => simp only []; rw [List.getElem?_append_right (by omega)]; congr 1; omega
  | some m => simp [List.drop_append, List.drop_eq_nil_of_le (Nat.le_add_right _ _)]
theorem icut_in {xs cs : List AV} {k : Nat} (h : k < xs.length) : icut none (xs ++ cs) k = icut none xs k := by
  unfold icut; simp [List.getElem?_append_left h]
theorem icut_row {xs cs : List AV} {k m : Nat} (h : k + m ≤ xs.length) : icut (some m) (xs ++ cs) k = icut (some m) xs k := by
  unfold icut
  have : ((xs ++ cs).drop k).take m = (xs.drop k).take m := by
    rw [List.drop_append_of_le_length (by omega), List.take_append_of_le_length (by simp; omega)]
  simp only [this]
-- concepts
theorem d_con1 {c : Con} {cs : List AV} : icut (some 3) (c.enc ++ cs) 0 = some (.agg c.enc) := icut_pre c.len
theorem d_con2 {c : Con} : icut (some 3) c.enc 0 = some (.agg c.enc) := icut_all c.len
theorem d_con3 {c : Con} : icut none c.enc 0 = some (.v (.int .i64 c.op)) := by rw [Con.enc_eq]; rfl
theorem d_con4 {c : Con} : icut none c.enc 1 = some (.v (.int .i64 c.n)) := by rw [Con.enc_eq]; rfl
theorem d_con5 {c : Con} : icut none c.enc 2 = some (.sl .none c.args.length (encs Con.enc c.args)) := by rw [Con.enc_eq, Con.encs_eq]; rfl
theorem d_con6 {c : Con} {cs : List AV} : icut none (c.enc ++ cs) 0 = some (.v (.int .i64 c.op)) := by rw [icut_in (by rw [c.len]; decide)]; exact d_con3
theorem d_con7 {c : Con} {cs : List AV} : icut none (c.enc ++ cs) 1 = some (.v (.int .i64 c.n)) := by rw [icut_in (by rw [c.len]; decide)]; exact d_con4
theorem d_con8 {c : Con} {cs : List AV} : icut none (c.enc ++ cs) 2 = some (.sl .none c.args.length (encs Con.enc c.args)) := by rw [icut_in (by rw [c.len]; decide)]; exact d_con5
theorem d_con9 {c : Con} : c.enc.all AV.one = true := by rw [Con.enc_eq]; rfl
theorem d_con10 {c : Con} {x : AV} {k : Nat} : splice c.enc k [x] = splice [.v (.int .i64 c.op), .v (.int .i64 c.n), .sl .none c.args.length (encs Con.enc c.args)] k [x] := by rw [Con.enc_eq, Con.encs_eq]
theorem d_con11 {c : Con} : irow 3 c.enc = some c.enc := by unfold irow; rw [← c.len, List.take_length]; simp
theorem d_con12 {o n : Int} {l : List Con} : (Con.mk o n l).args = l := rfl
theorem d_con13 {o n : Int} {l : List Con} : (Con.mk o n l).op = o := rfl
theorem d_con14 {o n : Int} {l : List Con} : (Con.mk o n l).n = n := rfl
-- names
theorem d_nms1 {c : Nms} {cs : List AV} : icut (some 3) (c.enc ++ cs) 0 = some (.agg c.enc) := icut_pre c.len
theorem d_nms2 {c : Nms} : icut (some 3) c.enc 0 = some (.agg c.enc) := icut_all c.len
theorem d_nms3 {c : Nms} : icut none c.enc 0 = some (.sl .none c.cs.length (strs c.cs)) := rfl
theorem d_nms4 {c : Nms} : icut none c.enc 1 = some (.sl .none c.rs.length (strs c.rs)) := rfl
theorem d_nms5 {c : Nms} : icut none c.enc 2 = some (.sl .none c.is.length (strs c.is)) := rfl
theorem d_nms9 {c : Nms} : c.enc.all AV.one = true := rfl
-- knowledge bases
theorem d_bas1 {b : Bas} : icut (some 3) b.enc 0 = some (.agg b.nms.enc) := by
  unfold Bas.enc; exact icut_pre b.nms.len
theorem d_bas2 {b : Bas} : icut (some 7) b.enc 0 = some (.agg b.enc) := icut_all b.len
theorem d_bas3 {b : Bas} : icut none b.enc 3 = some (.sl .none b.incls.length (encs Inc.enc b.incls)) := rfl
theorem d_bas4 {b : Bas} : icut none b.enc 4 = some (.sl .none b.roles.length (encs RIn.enc b.roles)) := rfl
theorem d_bas5 {b : Bas} : icut none b.enc 5 = some (.sl .none b.facts.length (encs Fac.enc b.facts)) := rfl
theorem d_bas6 {b : Bas} : icut none b.enc 6 = some (.sl .none b.links.length (encs Lnk.enc b.links)) := rfl
theorem d_bas7 {b : Bas} : icut none b.enc 0 = some (.sl .none b.nms.cs.length (strs b.nms.cs)) := rfl
theorem d_bas8 {b : Bas} : icut none b.enc 1 = some (.sl .none b.nms.rs.length (strs b.nms.rs)) := rfl
theorem d_bas10 {b : Bas} : icut none b.enc 2 = some (.sl .none b.nms.is.length (strs b.nms.is)) := rfl
theorem d_bas9 {b : Bas} : b.enc.all AV.one = true := rfl
-- inclusions, facts, links
theorem d_inc1 {c : Inc} {cs : List AV} : icut (some 6) (c.enc ++ cs) 0 = some (.agg c.enc) := icut_pre c.len
theorem d_inc2 {c : Inc} : icut (some 6) c.enc 0 = some (.agg c.enc) := icut_all c.len
theorem d_inc3 {c : Inc} : icut (some 3) c.enc 0 = some (.agg c.sub.enc) := icut_pre c.sub.len
theorem d_inc4 {c : Inc} : icut (some 3) c.enc 3 = some (.agg c.sup.enc) := by
  have := icut_at (row := some 3) (cs := c.sup.enc) (k := 0) c.sub.len
  unfold Inc.enc; rw [show 3 = 3 + 0 from rfl, this]; exact icut_all c.sup.len
theorem d_inc5 {c : Inc} : icut none c.enc 0 = some (.v (.int .i64 c.sub.op)) := d_con6
theorem d_inc6 {c : Inc} : icut none c.enc 3 = some (.v (.int .i64 c.sup.op)) := by
  have := icut_at (row := none) (cs := c.sup.enc) (k := 0) c.sub.len
  unfold Inc.enc; rw [show 3 = 3 + 0 from rfl, this]; exact d_con3
theorem d_inc7 {c : Inc} : icut none c.enc 5 = some (.sl .none c.sup.args.length (encs Con.enc c.sup.args)) := by
  have := icut_at (row := none) (cs := c.sup.enc) (k := 2) c.sub.len
  unfold Inc.enc; rw [show 5 = 3 + 2 from rfl, this]; exact d_con5
theorem d_inc9 {c : Inc} : c.enc.all AV.one = true := by unfold Inc.enc; rw [List.all_append, d_con9, d_con9]; rfl
theorem d_inc11 {c : Inc} : irow 6 c.enc = some c.enc := by unfold irow; rw [← c.len, List.take_length]; simp
theorem d_rin1 {c : RIn} {cs : List AV} : icut (some 2) (c.enc ++ cs) 0 = some (.agg c.enc) := icut_pre c.len
theorem d_rin2 {c : RIn} : icut (some 2) c.enc 0 = some (.agg c.enc) := icut_all c.len
theorem d_rin3 {c : RIn} : icut none c.enc 0 = some (.v (.int .i64 c.sub)) := rfl
theorem d_rin4 {c : RIn} : icut none c.enc 1 = some (.v (.int .i64 c.sup)) := rfl
theorem d_rin9 {c : RIn} : c.enc.all AV.one = true := rfl
theorem d_fac1 {c : Fac} {cs : List AV} : icut (some 4) (c.enc ++ cs) 0 = some (.agg c.enc) := icut_pre c.len
theorem d_fac2 {c : Fac} : icut (some 4) c.enc 0 = some (.agg c.enc) := icut_all c.len
theorem d_fac3 {c : Fac} : icut none c.enc 0 = some (.v (.int .i64 c.ind)) := rfl
theorem d_fac4 {c : Fac} : icut (some 3) c.enc 1 = some (.agg c.con.enc) := d_con2
theorem d_fac5 {c : Fac} : icut none c.enc 1 = some (.v (.int .i64 c.con.op)) := by
  have := d_con3 (c := c.con); simpa [icut, Fac.enc] using this
theorem d_fac6 {c : Fac} : icut none c.enc 2 = some (.v (.int .i64 c.con.n)) := by
  have := d_con4 (c := c.con); simpa [icut, Fac.enc] using this
theorem d_fac9 {c : Fac} : c.enc.all AV.one = true := by unfold Fac.enc; rw [List.all_cons, d_con9]; rfl
theorem d_lnk1 {c : Lnk} {cs : List AV} : icut (some 3) (c.enc ++ cs) 0 = some (.agg c.enc) := icut_pre c.len
theorem d_lnk2 {c : Lnk} : icut (some 3) c.enc 0 = some (.agg c.enc) := icut_all c.len
theorem d_lnk3 {c : Lnk} : icut none c.enc 0 = some (.v (.int .i64 c.role)) := rfl
theorem d_lnk4 {c : Lnk} : icut none c.enc 1 = some (.v (.int .i64 c.fr)) := rfl
theorem d_lnk5 {c : Lnk} : icut none c.enc 2 = some (.v (.int .i64 c.to)) := rfl
theorem d_lnk9 {c : Lnk} : c.enc.all AV.one = true := rfl
-- without objects
mutual
theorem Con.pur : ∀ c : Con, AV.pures c.enc = true
  | .mk o n l => by simp [Con.enc, AV.pures, AV.pure, Con.purs l]
theorem Con.purs : ∀ l : List Con, AV.pures (Con.encs l) = true
  | [] => rfl
  | c :: l => by simp [Con.encs, pures_append, Con.pur c, Con.purs l]
end
theorem encs_pur {α : Type} {e : α → List AV} (h : ∀ x, AV.pures (e x) = true) : ∀ l : List α, AV.pures (encs e l) = true
  | [] => rfl
  | c :: l => by rw [encs_cons, pures_append, h, encs_pur h l]; rfl
theorem ints_pur : ∀ l : List Int, AV.pures (ints l) = true
  | [] => rfl
  | c :: l => by rw [d_cons6]; simp [AV.pures, AV.pure, ints_pur l]
theorem strs_pur : ∀ l : List ByteArray, AV.pures (strs l) = true
  | [] => rfl
  | c :: l => by rw [d_cons7]; simp [AV.pures, AV.pure, strs_pur l]
theorem boos_pur : ∀ l : List Bool, AV.pures (boos l) = true
  | [] => rfl
  | c :: l => by rw [d_cons8]; simp [AV.pures, AV.pure, boos_pur l]
theorem Nms.pur (n : Nms) : AV.pures n.enc = true := by simp [Nms.enc, AV.pures, AV.pure, strs_pur]
theorem Inc.pur (n : Inc) : AV.pures n.enc = true := by simp [Inc.enc, pures_append, Con.pur]
theorem RIn.pur (n : RIn) : AV.pures n.enc = true := rfl
theorem Fac.pur (n : Fac) : AV.pures n.enc = true := by simp [Fac.enc, AV.pures, AV.pure, Con.pur]
theorem Lnk.pur (n : Lnk) : AV.pures n.enc = true := rfl
theorem Bas.pur (n : Bas) : AV.pures n.enc = true := by
  simp [Bas.enc, pures_append, Nms.pur, AV.pures, AV.pure, encs_pur Inc.pur, encs_pur RIn.pur, encs_pur Fac.pur, encs_pur Lnk.pur]
/-- What is read of data. -/
def jd := And.intro @d_len1 (And.intro @d_len2 (And.intro @d_len3 (And.intro @d_len4 (And.intro @d_len5 (And.intro @d_len6 (And.intro @d_len7 (And.intro @d_len8 (And.intro @d_drop1 (And.intro @d_drop2 (And.intro @d_drop3 (And.intro @d_drop4 (And.intro @d_drop5 (And.intro @d_drop6 (And.intro @d_drop7 (And.intro @d_drop8 (And.intro @d_cons6 (And.intro @d_cons7 (And.intro @d_cons8 (And.intro @d_con1 (And.intro @d_con2 (And.intro @d_con3 (And.intro @d_con4 (And.intro @d_con5 (And.intro @d_con6 (And.intro @d_con7 (And.intro @d_con8 (And.intro @d_con9 (And.intro @d_con10 (And.intro @d_con11 (And.intro @d_con12 (And.intro @d_con13 (And.intro @d_con14 (And.intro @d_nms1 (And.intro @d_nms2 (And.intro @d_nms3 (And.intro @d_nms4 (And.intro @d_nms5 (And.intro @d_nms9 (And.intro @d_bas1 (And.intro @d_bas2 (And.intro @d_bas3 (And.intro @d_bas4 (And.intro @d_bas5 (And.intro @d_bas6 (And.intro @d_bas7 (And.intro @d_bas8 (And.intro @d_bas10 (And.intro @d_bas9 (And.intro @d_inc1 (And.intro @d_inc2 (And.intro @d_inc3 (And.intro @d_inc4 (And.intro @d_inc5 (And.intro @d_inc6 (And.intro @d_inc7 (And.intro @d_inc9 (And.intro @d_inc11 (And.intro @d_rin1 (And.intro @d_rin2 (And.intro @d_rin3 (And.intro @d_rin4 (And.intro @d_rin9 (And.intro @d_fac1 (And.intro @d_fac2 (And.intro @d_fac3 (And.intro @d_fac4 (And.intro @d_fac5 (And.intro @d_fac6 (And.intro @d_fac9 (And.intro @d_lnk1 (And.intro @d_lnk2 (And.intro @d_lnk3 (And.intro @d_lnk4 (And.intro @d_lnk5 (And.intro @d_lnk9 (And.intro @encs_nil (And.intro @encs_cons (And.intro @Con.len (And.intro @Nms.len (And.intro @Inc.len (And.intro @RIn.len (And.intro @Fac.len (And.intro @Lnk.len (And.intro @Bas.len (@icut_drop)))))))))))))))))))))))))))))))))))))))))))))))))))))))))))))))))))))))))))))))))))))
/-- What has no objects. -/
def jpu := And.intro @Con.pur (And.intro @Nms.pur (And.intro @Inc.pur (And.intro @RIn.pur (And.intro @Fac.pur (And.intro @Lnk.pur (And.intro @Bas.pur (And.intro @ints_pur (And.intro @strs_pur (And.intro @boos_pur (And.intro (encs_pur Con.pur) (And.intro (encs_pur Inc.pur) (And.intro (encs_pur RIn.pur) (And.intro (encs_pur Fac.pur) (encs_pur Lnk.pur))))))))))))))
/-- What else is read off. -/
def jz := And.intro @decide_true (And.intro @decide_false (And.intro @ne_eq.{1} (And.intro @eq_self.{1} (And.intro @Int.toNat_natCast (And.intro @Nat.mul_one (And.intro @Nat.add_zero (And.intro @Nat.zero_add (And.intro @List.nil_append.{0} (And.intro @List.cons_append.{0} (And.intro @List.append_nil.{0} (And.intro @List.length_cons.{0} (And.intro @List.length_nil.{0} (And.intro @List.drop_zero.{0} (And.intro @List.drop_succ_cons.{0} (And.intro @ext_get_new (And.intro @ext_set_new (And.intro @splice_full (And.intro @splice_z3 (And.intro @splice_a3 (And.intro @List.length_append.{0} (And.intro @List.getElem?_cons_zero.{0} (And.intro @List.getElem?_cons_succ.{0} (And.intro @List.set_cons_zero.{0} (And.intro @List.set_cons_succ.{0} (And.intro @Option.map_some.{0, 0} (And.intro @Bool.not_true (And.intro @Bool.not_false (And.intro @Bool.and_true (And.intro @Bool.true_and (And.intro @and_self (And.intro @and_true (And.intro @true_and (And.intro @not_true_eq_false (And.intro @not_false_eq_true @pid_lt))))))))))))))))))))))))))))))))))
end

/-! ### Pg, part 17: slices that grow, bytes of strings, lists of lists. -/
section
/-! ### Slices that grow -/
def CanApp (j0 j : JH) (tok : Tok) (es n : Nat) : Prop := (tok = .nil ∧ n = 0) ∨ ∃ t, j0.tnext ≤ t ∧ t < j.tnext ∧ tok = .own t 0 es ∧ j.tok t = some n
theorem CanApp.nil {j0 j : JH} {es : Nat} : CanApp j0 j .nil es 0 := .inl ⟨rfl, rfl⟩
theorem CanApp.push {j0 j : JH} {tok : Tok} {es n F : Nat} (h : CanApp j0 j tok es n) : CanApp j0 (j.pushTok F) tok es n := by
  rcases h with h | ⟨t, h1, h2, h3, h4⟩
  · exact .inl h
  · refine .inr ⟨t, h1, Nat.lt_succ_of_lt h2, h3, ?_⟩
    show (if t = j.tnext then some F else j.tok t) = _
    rw [if_neg (by omega)]; exact h4
theorem SubB.can {j0 j : JH} {tok : Tok} {es n no : Nat} {cs : List AV} (h : CanApp j0 j tok es n) (p : AV.pures cs = true) : SubB no j.tnext (.sl tok n cs) (.sl tok n cs) := by
  rcases h with ⟨rfl, rfl⟩ | ⟨t, h1, h2, rfl, h4⟩
  · exact SubB.pure (by simp only [AV.pure]; exact p)
  · exact SubB.own h2 (SubBs.pure p)
theorem JAPP.can {j0 j : JH} {objs : List AObj} {es bytes n m : Nat} {tok tok' : Tok} {cs cs' : List AV} {K : AV → JH → Prop} (h : CanApp j0 j tok es n) (ht : TokExt j0 j)
    (h1 : cs.length = n * es) (h2 : cs'.length = m * es) (h3 : cs'.all AV.one = true) (h4 : (n + m) * bytes ≤ 140737488355328) (h5 : n + m ≤ 9223372036854775807) (hm : m ≠ 0)
    (k : ∀ tok1 j1, CanApp j0 j1 tok1 es (n + m) → TokExt j0 j1 → j.tnext ≤ j1.tnext → K (.sl tok1 (n + m) (cs ++ cs')) (ext j1 objs)) : @JAPP (ext j objs) es bytes (.sl tok n cs) (.sl tok' m cs') ⟨K⟩ := by
  refine ⟨⟨h1, h2, h3, h4, h5⟩, fun e => absurd e hm, fun _ => ?_⟩
  rcases h with ⟨rfl, rfl⟩ | ⟨t, q1, q2, rfl, q4⟩
  · have hcs : cs = [] := List.eq_nil_of_length_eq_zero (by rw [h1, Nat.zero_mul])
    subst hcs
    have := k (.own j.tnext 0 es) (j.pushTok m) (.inr ⟨j.tnext, ht.tnext, Nat.lt_succ_self _, rfl, by show (if j.tnext = j.tnext then some m else _) = _; rw [if_pos rfl, Nat.zero_add]⟩) (ht.push m) (Nat.le_succ _)
    rw [Nat.zero_add] at this; exact this
  · refine ⟨⟨by rw [ext_tok, Nat.zero_add]; exact q4, rfl⟩, ?_⟩
    have := k (.own t 0 es) (j.setTok t (n + m)) (.inr ⟨t, q1, q2, rfl, by show (if t = t then some (n + m) else _) = _; rw [if_pos rfl]⟩) (ht.setT q1 _) (Nat.le_refl _)
    rw [Nat.zero_add]; exact this
theorem JDropH.nextT {j0 j j1 j2 : JH} {l m n : List AObj} (h0 : TokExt j0 j) (h2 : TokExt j0 j2) (h : TokExt j2 j1) (ht : j.tnext ≤ j2.tnext) (hl : LSub (pid j0.next n.length) j2.tnext l m n) : JDropH (ext j l) (ext j1 m) (ext j2 n) := by
  have e : j2.next = j.next := h2.next.trans h0.next.symm
  refine JDropH.next h e ht (fun o ob ho q => .inl ?_) (by rw [h0.next]; exact hl)
  rw [h0.next] at ho
  rw [h2.get o ho] at q; rw [h0.get o ho]; exact q
theorem JDropH.refl' {j0 j : JH} {l : List AObj} : JDropH (ext j l) (ext j l) (ext j l) := JDropH.refl _

/-! ### Bytes -/
abbrev bs (s : ByteArray) : List UInt8 := s.data.toList
theorem bs_len (s : ByteArray) : (bs s).length = s.size := by simp [bs]
theorem byte_at {s : ByteArray} {k : Nat} {b : UInt8} {l : List UInt8} (h : (bs s).drop k = b :: l) : s[k]? = some b := by
  have h1 : (bs s)[k]? = some b := by
    have := congrArg (·[0]?) h
    simpa using this
  have hlt : k < s.size := by
    rw [← bs_len]
    rcases Nat.lt_or_ge k (bs s).length with q | q
    · exact q
    · rw [List.getElem?_eq_none q] at h1; cases h1
  rw [getElem?_pos s k hlt]
  have h2 : (bs s)[k]? = some (s.data[k]'hlt) := by simp [bs]
  rw [h2] at h1
  simpa [ByteArray.getElem_eq_getElem_data] using h1
abbrev U8 (x : Int) : AV := .v (.int .u8 x)

/-! ### Lists of lists of strings -/
def SE (l : List ByteArray) : List AV := [.sl .none l.length (strs l)]
theorem d_se {l : List ByteArray} {r : List (List ByteArray)} : encs SE (l :: r) = .sl .none l.length (strs l) :: encs SE r := rfl
theorem d_se2 {l : List ByteArray} {cs : List AV} : SE l ++ cs = .sl .none l.length (strs l) :: cs := rfl
theorem d_sed {l : List (List ByteArray)} {k : Nat} : (encs SE l).drop k = encs SE (l.drop k) := by
  have := encs_drop (e := SE) (n := 1) (fun _ => rfl) l k; simpa using this
theorem d_sel {l : List (List ByteArray)} : (encs SE l).length = l.length := by
  have := encs_length (e := SE) (n := 1) (fun _ => rfl) l; simpa using this
theorem SE.pur (l : List (List ByteArray)) : AV.pures (encs SE l) = true := encs_pur (fun l => by simp [SE, AV.pures, AV.pure, strs_pur]) l
def je := And.intro @d_se2 (And.intro @d_sed @d_sel)
end
end Go.Proofs.YtkcbhebbjpiibaaDoor.Pg
