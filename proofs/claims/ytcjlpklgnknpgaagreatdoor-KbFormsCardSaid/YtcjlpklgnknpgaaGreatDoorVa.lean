/-
  Axioms of knowledge bases and their lines, as data.
-/
import Derived.Test.YtcjlpklgnknpgaaGreatDoorLj
import Derived.Test.YtcjlpklgnknpgaaGreatDoorQe
set_option linter.unusedVariables false
set_option linter.unusedSimpArgs false
set_option linter.defProp false
set_option maxRecDepth 100000
set_option maxHeartbeats 4000000
namespace Go.Proofs.YtcjlpklgnknpgaaGreatDoor.Pg
open Go
/-- An axiom. -/
inductive Ax where
  | inc (x : Inc)
  | rol (x : RIn)
  | fac (x : Fac)
  | lnk (x : Lnk)
def Ax.enc : Ax → AV
  | .inc x => .ifc 139 (.agg x.enc)
  | .rol x => .ifc 140 (.agg x.enc)
  | .fac x => .ifc 141 (.agg x.enc)
  | .lnk x => .ifc 142 (.agg x.enc)
def axs (l : List Ax) : List AV := l.map Ax.enc
/-- All axioms, in order. -/
def Bas.axs (b : Bas) : List Ax := b.incls.map .inc ++ b.roles.map .rol ++ b.facts.map .fac ++ b.links.map .lnk
/-- An axiom's line. -/
def Ax.str (n : Nms) : Ax → ByteArray
  | .inc x => strC n x.sub ++ ⟨#[32, 60, 32]⟩ ++ strC n x.sup
  | .rol x => ⟨#[114, 111, 108, 101, 32]⟩ ++ roleS n x.sub ++ ⟨#[32, 60, 32]⟩ ++ roleS n x.sup
  | .fac x => nthS n.is x.ind.toNat ++ ⟨#[32, 58, 32]⟩ ++ strC n x.con
  | .lnk x => ⟨#[40]⟩ ++ nthS n.is x.fr.toNat ++ ⟨#[44, 32]⟩ ++ nthS n.is x.to.toNat ++ ⟨#[41, 32, 58, 32]⟩ ++ nthS n.rs x.role.toNat
/-- Words, each in a line of its own behind a word. -/
def linesS (p : ByteArray) : List ByteArray → ByteArray
  | [] => ⟨#[]⟩
  | s :: l => p ++ s ++ ⟨#[10]⟩ ++ linesS p l
/-- The string of a knowledge base. -/
def Bas.str (b : Bas) : ByteArray :=
  linesS ⟨#[99, 111, 110, 99, 101, 112, 116, 32]⟩ b.nms.cs ++ linesS ⟨#[114, 111, 108, 101, 32]⟩ b.nms.rs ++ linesS ⟨#[105, 110, 100, 32]⟩ b.nms.is ++ linesS ⟨#[]⟩ (b.axs.map (Ax.str b.nms))
def kbS (b : Bas) : ByteArray := if basV b then b.str else ⟨#[]⟩
def basE (b : Bas) : Int := if basV b then 0 else 20
/-! ### Read back from cells -/
def decC : Nat → List AV → Option (List Con)
  | 0, _ => none
  | k + 1, cs => match cs with
    | [] => some []
    | .v (.int .i64 o) :: .v (.int .i64 n) :: .sl _ m ds :: r => if -9223372036854775808 ≤ o ∧ o ≤ 9223372036854775807 ∧ -9223372036854775808 ≤ n ∧ n ≤ 9223372036854775807 ∧ m < 1000 then xo (decC k ds) fun l => if l.length = m then xo (decC k r) fun rs => some (.mk o n l :: rs) else none else none
    | _ => none
def decI : Nat → List AV → Option (List Inc)
  | 0, _ => none
  | k + 1, cs => match cs with
    | [] => some []
    | a :: b :: c :: d :: e :: f :: r => xo (decC 30 [a, b, c]) fun x => xo (decC 30 [d, e, f]) fun y => xo (decI k r) fun rs => match x, y with
      | [x], [y] => if x.nodes ≤ 4000 ∧ y.nodes ≤ 4000 then some (⟨x, y⟩ :: rs) else none
      | _, _ => none
    | _ => none
def decR : List AV → Option (List RIn)
  | [] => some []
  | .v (.int .i64 a) :: .v (.int .i64 b) :: r => if (0 ≤ a ∧ a ≤ 1000) ∧ 0 ≤ b ∧ b ≤ 1000 then xo (decR r) fun rs => some (⟨a, b⟩ :: rs) else none
  | _ => none
def decF : Nat → List AV → Option (List Fac)
  | 0, _ => none
  | k + 1, cs => match cs with
    | [] => some []
    | .v (.int .i64 i) :: a :: b :: c :: r => xo (decC 30 [a, b, c]) fun x => xo (decF k r) fun rs => match x with
      | [x] => if (0 ≤ i ∧ i ≤ 1000) ∧ x.nodes ≤ 4000 then some (⟨i, x⟩ :: rs) else none
      | _ => none
    | _ => none
def decLn : List AV → Option (List Lnk)
  | [] => some []
  | .v (.int .i64 a) :: .v (.int .i64 b) :: .v (.int .i64 c) :: r => if (0 ≤ a ∧ a ≤ 1000) ∧ (0 ≤ b ∧ b ≤ 1000) ∧ 0 ≤ c ∧ c ≤ 1000 then xo (decLn r) fun rs => some (⟨a, b, c⟩ :: rs) else none
  | _ => none
def decB : List AV → Option Bas
  | [a, b, c, .sl _ k1 xs, .sl _ k2 ys, .sl _ k3 zs, .sl _ k4 us] => xo (decN [a, b, c]) fun n => xo (decI 100 xs) fun is => xo (decR ys) fun rs => xo (decF 100 zs) fun fs => xo (decLn us) fun ls =>
    if is.length = k1 ∧ rs.length = k2 ∧ fs.length = k3 ∧ ls.length = k4 ∧ k1 < 1000 ∧ k2 < 1000 ∧ k3 < 1000 ∧ k4 < 1000 ∧ (n.lists.all fun l => l.all fun s => decide (s.size ≤ 100)) = true then some ⟨n, is, rs, fs, ls⟩ else none
  | _ => none
end Go.Proofs.YtcjlpklgnknpgaaGreatDoor.Pg
