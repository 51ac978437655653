/-
  Axioms of knowledge bases and their lines, as data.
-/
import Derived.Test.YtcjlpklgnknpgaaGreatDoorLj
import Derived.Test.YtcjlpklgnknpgaaGreatDoorQe
import Derived.Test.YtcjlpklgnknpgaaGreatDoorPgX
import Derived.Test.YtcjlpklgnknpgaaGreatDoorShelfS
import Derived.Lib.Builder
import Derived.Test.YtcjlpklgnknpgaaGreatDoorUb
set_option linter.unusedVariables false
set_option linter.unusedSimpArgs false
set_option linter.defProp false
set_option maxRecDepth 100000
set_option maxHeartbeats 4000000
namespace Go.Proofs.YtcjlpklgnknpgaaGreatDoor.Pg
open Go
section
open Go
inductive Ax where
 | inc (x : Inc)
 | rol (x : RIn)
 | fac (x : Fac)
 | lnk (x : Lnk)
def Ax.enc : Ax → AV
 | .inc x => .ifc 139 (.agg x.enc)
 | .rol x => .ifc 140 (.agg x.enc)
 | .fac x => .ifc 141 (.agg x.enc)
 | .lnk x => .ifc 142 (.agg x.enc)
def axs (l : List Ax) : List AV := l.map Ax.enc
def Bas.axs (b : Bas) : List Ax := b.incls.map .inc ++ b.roles.map .rol ++ b.facts.map .fac ++ b.links.map .lnk
def Ax.str (n : Nms) : Ax → ByteArray
 | .inc x => strC n x.sub ++ ⟨#[32, 60, 32]⟩ ++ strC n x.sup
 | .rol x => ⟨#[114, 111, 108, 101, 32]⟩ ++ roleS n x.sub ++ ⟨#[32, 60, 32]⟩ ++ roleS n x.sup
 | .fac x => nthS n.is x.ind.toNat ++ ⟨#[32, 58, 32]⟩ ++ strC n x.con
 | .lnk x => ⟨#[40]⟩ ++ nthS n.is x.fr.toNat ++ ⟨#[44, 32]⟩ ++ nthS n.is x.to.toNat ++ ⟨#[41, 32, 58, 32]⟩ ++ nthS n.rs x.role.toNat
def linesS (p : ByteArray) : List ByteArray → ByteArray
 | [] => ⟨#[]⟩
 | s :: l => p ++ s ++ ⟨#[10]⟩ ++ linesS p l
def Bas.str (b : Bas) : ByteArray :=
 linesS ⟨#[99, 111, 110, 99, 101, 112, 116, 32]⟩ b.nms.cs ++ linesS ⟨#[114, 111, 108, 101, 32]⟩ b.nms.rs ++ linesS ⟨#[105, 110, 100, 32]⟩ b.nms.is ++ linesS ⟨#[]⟩ (b.axs.map (Ax.str b.nms))
def kbS (b : Bas) : ByteArray := if basV b then b.str else ⟨#[]⟩
def basE (b : Bas) : Int := if basV b then 0 else 20
def decC : Nat → List AV → Option (List Con)
 | 0, _ => none
 | k + 1, cs => match cs with
  | [] => some []
  | .v (.int .i64 o) :: .v (.int .i64 n) :: .sl _ m ds :: r => if -9223372036854775808 ≤ o ∧ o ≤ 9223372036854775807 ∧ -9223372036854775808 ≤ n ∧ n ≤ 9223372036854775807 ∧ m < 1000 then xo (decC k ds) fun l => if l.length = m then xo (decC k r) fun rs => some (.mk o n l :: rs) else none else none
  | _ => none
def decI : Nat → List AV → Option (List Inc)
 | 0, _ => none
 | k + 1, cs => match cs with
  | [] => some []
  | a :: b :: c :: d :: e :: f :: r => xo (decC 30 [a, b, c]) fun x => xo (decC 30 [d, e, f]) fun y => xo (decI k r) fun rs => match x, y with
   | [x], [y] => if x.nodes ≤ 4000 ∧ y.nodes ≤ 4000 then some (⟨x, y⟩ :: rs) else none
   | _, _ => none
  | _ => none
def decR : List AV → Option (List RIn)
 | [] => some []
 | .v (.int .i64 a) :: .v (.int .i64 b) :: r => if (0 ≤ a ∧ a ≤ 1000) ∧ 0 ≤ b ∧ b ≤ 1000 then xo (decR r) fun rs => some (⟨a, b⟩ :: rs) else none
 | _ => none
def decF : Nat → List AV → Option (List Fac)
 | 0, _ => none
 | k + 1, cs => match cs with
  | [] => some []
  | .v (.int .i64 i) :: a :: b :: c :: r => xo (decC 30 [a, b, c]) fun x => xo (decF k r) fun rs => match x with
   | [x] => if (0 ≤ i ∧ i ≤ 1000) ∧ x.nodes ≤ 4000 then some (⟨i, x⟩ :: rs) else none
   | _ => none
  | _ => none
def decLn : List AV → Option (List Lnk)
 | [] => some []
 | .v (.int .i64 a) :: .v (.int .i64 b) :: .v (.int .i64 c) :: r => if (0 ≤ a ∧ a ≤ 1000) ∧ (0 ≤ b ∧ b ≤ 1000) ∧ 0 ≤ c ∧ c ≤ 1000 then xo (decLn r) fun rs => some (⟨a, b, c⟩ :: rs) else none
 | _ => none
def decB : List AV → Option Bas
 | [a, b, c, .sl _ k1 xs, .sl _ k2 ys, .sl _ k3 zs, .sl _ k4 us] => xo (decN [a, b, c]) fun n => xo (decI 100 xs) fun is => xo (decR ys) fun rs => xo (decF 100 zs) fun fs => xo (decLn us) fun ls =>
  if is.length = k1 ∧ rs.length = k2 ∧ fs.length = k3 ∧ ls.length = k4 ∧ k1 < 1000 ∧ k2 < 1000 ∧ k3 < 1000 ∧ k4 < 1000 ∧ (n.lists.all fun l => l.all fun s => decide (s.size ≤ 100)) = true then some ⟨n, is, rs, fs, ls⟩ else none
 | _ => none
end
section
open Go Go.Proofs Go.Shelf Go.RowKit Go.Lib
abbrev BT : TypeId := 77
theorem bt_info : (Tryz.prog.info? BT).map (fun i => i.size) = some 2 := by kernel_rfl
theorem bt_ptr : Tryz.prog.underlying 75 = some (.pointer BT) := by kernel_rfl
theorem bt_uns : Tryz.prog.underlying 166 = some .unsafePointer := by kernel_rfl
theorem bt_lies : liesAt Tryz.prog Tryz.prog.depth BT (2 / Tryz.prog.cellsOf BT) 0 BT 1 = true := by kernel_rfl
theorem copy_first (b : Nat) (w : World) (vb : Value) (hb : w.heap[b]? = some (.cells #[.pointer none, vb] BT (0, 0))) :
  Calls Tryz.prog 75 #[.pointer (some ⟨b, 0, none⟩)] w fun e w' => e = .returned (.tuple #[]) ∧ w' = w.setRow b #[.pointer (some ⟨b, 0, none⟩), vb] := by
 have hc0 : w.cell? ⟨b, 0, none⟩ = some (.pointer none) := by simp [World.cell?, hb]
 go_enter Tryz.func75, Tryz.ntmps75
 have hsh : w.shape? b = some (BT, 2) := by simp [World.shape?, hb]
 have hfz : w.frozen? ⟨b, 0, none⟩ = false := by simp [World.frozen?, hb]
 obtain ⟨jt, hj, hjs⟩ := Option.map_eq_some_iff.1 bt_info
 go_wp2
 rw [Lib.run_to_unsafe w ⟨b, 0, none⟩ bt_ptr bt_uns hj (by rw [hjs]; decide) hsh (Nat.zero_lt_succ 1)]
 simp only [Result.andThen]
 rw [Oper.upon_value]
 go_wp2
 rw [run_callFunc_extern Tryz.func105 (by kernel_rfl) (by kernel_rfl) (by kernel_rfl) (e := Extern.AbiNoEscape.same) (by kernel_rfl)]
 rw [Lib.run_noEscape]
 simp only [Result.andThen]
 rw [Oper.upon_value]
 go_wp2
 rw [Lib.run_from_unsafe w ⟨b, 0, none⟩ bt_uns bt_ptr hj hsh bt_lies]
 simp only [Result.andThen]
 rw [Oper.upon_value]
 go_wp2
 go_end0
 refine ⟨rfl, ?_⟩
 unfold World.setCell World.setRow
 simp only
 congr 1
 apply Array.ext_getElem?
 intro k
 simp only [Array.getElem?_modify]
 by_cases hk : b = k
 ·subst hk; rw [if_pos rfl, if_pos rfl, hb]; rfl
 ·rw [if_neg hk, if_neg hk]
theorem copy_used (b : Nat) (w : World) (h0 : w.cell? ⟨b, 0, none⟩ = some (.pointer (some ⟨b, 0, none⟩))) :
  Calls Tryz.prog 75 #[.pointer (some ⟨b, 0, none⟩)] w fun e w' => e = .returned (.tuple #[]) ∧ w' = w := by
 obtain ⟨jt, hj, hjs⟩ := Option.map_eq_some_iff.1 bt_info
 go_enter Tryz.func75, Tryz.ntmps75
 go_wp2
 rw [Lib.run_neq_ptr_same w _ bt_ptr hj]
 go_wp2
 go_end0
 exact ⟨rfl, rfl⟩
end
section
open Go
set_option maxHeartbeats 8000000
theorem axs_len (l : List Ax) : (axs l).length = l.length := by simp [axs]
theorem axs_append (l r : List Ax) : axs (l ++ r) = axs l ++ axs r := by simp [axs]
theorem Ax.pur (x : Ax) : x.enc.pure = true := by
 cases x <;> simp only [Ax.enc, AV.pure]
 ·exact Inc.pur _
 ·exact RIn.pur _
 ·exact Fac.pur _
 ·exact Lnk.pur _
theorem axs_pur : ∀ l : List Ax, AV.pures (axs l) = true
 | [] => rfl
 | x :: l => by
  have := axs_pur l
  simp only [axs, List.map_cons, AV.pures, Ax.pur, Bool.true_and] at this ⊢; exact this
section
variable {G : Nat → Option (List AV)}
noncomputable def ir37 : IFn := ⟨65, [⟨2, none⟩], (.seq (.reg [oA 1 (.box 30 (.r 0)), oA 2 (.mov (.k (.sl .nil 0 [])))]) (.seq (.reg [oA 3 (.mov (.k (.sl .nil 0 [])))]) (.seq (.seq (.reg [oA 12 (.fadr 3 (.r 1)), oL 13 12 none, oT 14 13 (.lenl (.r 13)), oA 15 (.mov (kI 0))]) (.block 0 (.loop (.seq (.reg [oA 16 (.bin .lss (.r 15) (.r 14))]) (.seq (.cond (.r 16) .skip (.exit 0)) (.seq (.block 1 (.seq (.reg [oA 17 (.iasl 6 (.r 13) (.r 15)), oL 18 17 (some 6), oA 5 (.alloc 113 [.v (.int .i64 0), .v (.int .i64 0), .sl .nil 0 [], .v (.int .i64 0), .v (.int .i64 0), .sl .nil 0 []]), oN (.store 6 (.r 5) (.r 18))]) (.reg [oA 19 (kM 3), oL 20 5 (some 6), oA 21 (.mki 139 (.r 20)), oA 22 (.bsl 1 1 [.v .nilIface] [(0, (1, .r 21))]), oA 23 (.app 1 16 (.r 19) (.r 22)), oA 3 (kM 23)]))) (.reg [oA 24 (.bin .add (.r 15) (kI 1)), oA 15 (kM 24)]))))))) (.seq (.seq (.reg [oA 25 (.fadr 4 (.r 1)), oL 26 25 none, oT 27 26 (.lenl (.r 26)), oA 28 (.mov (kI 0))]) (.block 2 (.loop (.seq (.reg [oA 29 (.bin .lss (.r 28) (.r 27))]) (.seq (.cond (.r 29) .skip (.exit 2)) (.seq (.block 3 (.seq (.reg [oA 30 (.iasl 2 (.r 26) (.r 28)), oL 31 30 (some 2), oA 7 (.alloc 116 [.v (.int .i64 0), .v (.int .i64 0)]), oN (.store 2 (.r 7) (.r 31))]) (.reg [oA 32 (kM 3), oL 33 7 (some 2), oA 34 (.mki 140 (.r 33)), oA 35 (.bsl 1 1 [.v .nilIface] [(0, (1, .r 34))]), oA 36 (.app 1 16 (.r 32) (.r 35)), oA 3 (kM 36)]))) (.reg [oA 37 (.bin .add (.r 28) (kI 1)), oA 28 (kM 37)]))))))) (.seq (.seq (.reg [oA 38 (.fadr 5 (.r 1)), oL 39 38 none, oT 40 39 (.lenl (.r 39)), oA 41 (.mov (kI 0))]) (.block 4 (.loop (.seq (.reg [oA 42 (.bin .lss (.r 41) (.r 40))]) (.seq (.cond (.r 42) .skip (.exit 4)) (.seq (.block 5 (.seq (.reg [oA 43 (.iasl 4 (.r 39) (.r 41)), oL 44 43 (some 4), oA 9 (.alloc 118 [.v (.int .i64 0), .v (.int .i64 0), .v (.int .i64 0), .sl .nil 0 []]), oN (.store 4 (.r 9) (.r 44))]) (.reg [oA 45 (kM 3), oL 46 9 (some 4), oA 47 (.mki 141 (.r 46)), oA 48 (.bsl 1 1 [.v .nilIface] [(0, (1, .r 47))]), oA 49 (.app 1 16 (.r 45) (.r 48)), oA 3 (kM 49)]))) (.reg [oA 50 (.bin .add (.r 41) (kI 1)), oA 41 (kM 50)]))))))) (.seq (.seq (.reg [oA 51 (.fadr 6 (.r 1)), oL 52 51 none, oT 53 52 (.lenl (.r 52)), oA 54 (.mov (kI 0))]) (.block 6 (.loop (.seq (.reg [oA 55 (.bin .lss (.r 54) (.r 53))]) (.seq (.cond (.r 55) .skip (.exit 6)) (.seq (.block 7 (.seq (.reg [oA 56 (.iasl 3 (.r 52) (.r 54)), oL 57 56 (some 3), oA 11 (.alloc 120 [.v (.int .i64 0), .v (.int .i64 0), .v (.int .i64 0)]), oN (.store 3 (.r 11) (.r 57))]) (.reg [oA 58 (kM 3), oL 59 11 (some 3), oA 60 (.mki 142 (.r 59)), oA 61 (.bsl 1 1 [.v .nilIface] [(0, (1, .r 60))]), oA 62 (.app 1 16 (.r 58) (.r 61)), oA 3 (kM 62)]))) (.reg [oA 63 (.bin .add (.r 54) (kI 1)), oA 54 (kM 63)]))))))) (.seq (.reg [oA 64 (kM 3), oA 2 (kM 64)]) .ret)))))))⟩
theorem c37 : cfunc Tryz.prog 37 = some ir37 := by kernel_rfl
theorem k37 : okIR (max 1 ir37.n) ir37.ir = true := by decide +kernel
theorem s_kbAllG (b : Bas) (hi : b.incls.length ≤ 1000000) (hr : b.roles.length ≤ 1000000) (hf : b.facts.length ≤ 1000000) (hl : b.links.length ≤ 1000000) (j : JH) {Q : AOut → JH → Prop}
  (kQ : ∀ tok jx l, CanApp j jx tok 1 b.axs.length → (b.axs = [] → tok = .nil) → TokExt j jx → @JFIN (Pg.ext j []) (Pg.ext jx l) (.sl tok b.axs.length (axs b.axs)) ⟨fun y j' => Q (.ret y) j'⟩) :
  JC Tryz.prog G 37 [.agg b.enc] j Q := by
 refine JC.run hmix c37 (by exact k37) ?_
 (try simp only[↓jr,jw,seval,ir37])
 obtain ⟨T0, hT0⟩ : ∃ T, T = b.incls.map Ax.inc := ⟨_, rfl⟩
 obtain ⟨T1, hT1⟩ : ∃ T, T = T0 ++ b.roles.map Ax.rol := ⟨_, rfl⟩
 obtain ⟨T2, hT2⟩ : ∃ T, T = T1 ++ b.facts.map Ax.fac := ⟨_, rfl⟩
 obtain ⟨T3, hT3⟩ : ∃ T, T = T2 ++ b.links.map Ax.lnk := ⟨_, rfl⟩
 have hL0 : T0.length = b.incls.length := by rw [hT0]; simp
 have hL1 : T1.length = T0.length + b.roles.length := by rw [hT1]; simp
 have hL2 : T2.length = T1.length + b.facts.length := by rw [hT2]; simp
 have hL3 : T3.length = T2.length + b.links.length := by rw [hT3]; simp
 have hTT : T3 = b.axs := by rw [hT3, hT2, hT1, hT0]; simp [Bas.axs]
 refine JLOOP.of (σ := Nat × List Ax × Tok × JH) (fun s => s.1 ≤ b.incls.length ∧ TokExt j s.2.2.2 ∧ CanApp j s.2.2.2 s.2.2.1 1 s.2.1.length ∧ s.2.1 ++ (b.incls.drop s.1).map Ax.inc = T0 ∧ (s.2.1 = [] → s.2.2.1 = .nil)) (fun s => b.incls.length - s.1)
  (fun s => [(15, I64 s.1), (14, I64 b.incls.length), (13, .sl .none b.incls.length (encs Inc.enc b.incls)), (1, .ptr (pid j.next 0) 0), (3, .sl s.2.2.1 s.2.1.length (axs s.2.1))])
  (fun s => Pg.ext s.2.2.2 [.cells 30 b.enc]) (0, [], .nil, j) ⟨Nat.zero_le _, TokExt.refl _, CanApp.nil, hT0.symm, fun _ => rfl⟩ ?_ (JDropH.refl _) ?_
 ·(try simp only[↓jr,jw,seval,DL])
  exact ⟨SubB.v, SubB.v, SubB.sl rfl (SubBs.pure (encs_pur Inc.pur _)), SubB.ptr (by unfold pid; omega), SubB.pure rfl⟩
 rintro ⟨k, ac0, tk0, jx0⟩ ⟨hk, ht0, hc0, hI0, hz0⟩
 simp only at hk ht0 hc0 hI0 hz0
 have hnx0 := ht0.next
 (try simp only[↓jr,jw,seval,hnx0])
 refine wq.intro (fun h1 => ?_) (fun h1 => ?_)
 ·have hlt : k < (b.incls).length := by omega
  obtain ⟨x, r, hd⟩ : ∃ c_ l_, List.drop k (b.incls) = c_ :: l_ := ⟨_, _, List.drop_eq_getElem_cons hlt⟩
  have hd1 : List.drop (k + 1) (b.incls) = r := by rw [← List.drop_drop, hd]; rfl
  have hmem : x ∈ b.incls := List.mem_of_mem_drop (hd ▸ List.mem_cons_self)
  have e2 : ac0.length ≤ 4000000 := by have := congrArg List.length hI0; rw [List.length_append] at this; omega
  rw [hd] at hI0
  (try simp only[↓jr,jw,seval,hd,hnx0])
  refine wc.intro (by omega) ?_
  (try simp only[↓jr,jw,seval,hd,hnx0])
  refine JAPP.can' hc0.push (ht0.push 1) (by rw [axs_len, Nat.mul_one]) rfl rfl (by omega) (by omega) ?_
  intro tok1 j1 hcan htx hle
  have hle' : jx0.tnext ≤ j1.tnext := Nat.le_trans (Nat.le_succ _) hle
  have hn3 := htx.next
  (try simp only[↓jr,jw,seval,hn3])
  refine wc.intro (by unfold R64; omega) ?_
  (try simp only[↓jr,jw,seval,hn3])
  have e1 : (ac0 ++ [Ax.inc x]).length = ac0.length + 1 := by simp
  refine JNEXT.of (k + 1, ac0 ++ [Ax.inc x], tok1, j1) ⟨by simp only; omega, htx, by rw [e1]; exact hcan, by simp only [hd1]; rw [← hI0]; simp, fun e => by simp at e⟩ (by simp only; omega) ?_ (JDropH.nextT ht0 htx (TokExt.refl _) hle' ⟨.inl ⟨rfl, rfl⟩, True.intro⟩)
  (try simp only[↓jr,jw,seval,DL,e1,axs_append])
  exact ⟨SubB.v, SubB.v, SubB.sl rfl (SubBs.pure (encs_pur Inc.pur _)), SubB.ptr (by have := htx.next; unfold pid; omega), SubB.can hcan (by rw [pures_append, axs_pur]; simp only [AV.pures, AV.pure, Inc.pur]; rfl)⟩
 (try simp only[↓jr,jw,seval,hnx0])
 rw [List.drop_eq_nil_of_le (by omega), List.map_nil, List.append_nil] at hI0
 clear h1 hk
 refine JLOOP.of (σ := Nat × List Ax × Tok × JH) (fun s => s.1 ≤ b.roles.length ∧ TokExt j s.2.2.2 ∧ CanApp j s.2.2.2 s.2.2.1 1 s.2.1.length ∧ s.2.1 ++ (b.roles.drop s.1).map Ax.rol = T1 ∧ (s.2.1 = [] → s.2.2.1 = .nil)) (fun s => b.roles.length - s.1)
  (fun s => [(28, I64 s.1), (27, I64 b.roles.length), (26, .sl .none b.roles.length (encs RIn.enc b.roles)), (1, .ptr (pid j.next 0) 0), (3, .sl s.2.2.1 s.2.1.length (axs s.2.1))])
  (fun s => Pg.ext s.2.2.2 [.cells 30 b.enc]) (0, ac0, tk0, jx0) ⟨Nat.zero_le _, ht0, hc0, by simp only [List.drop_zero]; rw [hI0]; exact hT1.symm, hz0⟩ ?_ (JDropH.refl _) ?_
 ·(try simp only[↓jr,jw,seval,DL])
  exact ⟨SubB.v, SubB.v, SubB.sl rfl (SubBs.pure (encs_pur RIn.pur _)), SubB.ptr (by have := ht0.next; unfold pid; omega), SubB.can hc0 (axs_pur _)⟩
 rintro ⟨k, ac1, tk1, jx1⟩ ⟨hk, ht1, hc1, hI1, hz1⟩
 simp only at hk ht1 hc1 hI1 hz1
 have hnx1 := ht1.next
 (try simp only[↓jr,jw,seval,hnx1])
 refine wq.intro (fun h1 => ?_) (fun h1 => ?_)
 ·have hlt : k < (b.roles).length := by omega
  obtain ⟨x, r, hd⟩ : ∃ c_ l_, List.drop k (b.roles) = c_ :: l_ := ⟨_, _, List.drop_eq_getElem_cons hlt⟩
  have hd1 : List.drop (k + 1) (b.roles) = r := by rw [← List.drop_drop, hd]; rfl
  have hmem : x ∈ b.roles := List.mem_of_mem_drop (hd ▸ List.mem_cons_self)
  have e2 : ac1.length ≤ 4000000 := by have := congrArg List.length hI1; rw [List.length_append] at this; omega
  rw [hd] at hI1
  (try simp only[↓jr,jw,seval,hd,hnx1])
  refine wc.intro (by omega) ?_
  (try simp only[↓jr,jw,seval,hd,hnx1])
  refine JAPP.can' hc1.push (ht1.push 1) (by rw [axs_len, Nat.mul_one]) rfl rfl (by omega) (by omega) ?_
  intro tok1 j1 hcan htx hle
  have hle' : jx1.tnext ≤ j1.tnext := Nat.le_trans (Nat.le_succ _) hle
  have hn3 := htx.next
  (try simp only[↓jr,jw,seval,hn3])
  refine wc.intro (by unfold R64; omega) ?_
  (try simp only[↓jr,jw,seval,hn3])
  have e1 : (ac1 ++ [Ax.rol x]).length = ac1.length + 1 := by simp
  refine JNEXT.of (k + 1, ac1 ++ [Ax.rol x], tok1, j1) ⟨by simp only; omega, htx, by rw [e1]; exact hcan, by simp only [hd1]; rw [← hI1]; simp, fun e => by simp at e⟩ (by simp only; omega) ?_ (JDropH.nextT ht1 htx (TokExt.refl _) hle' ⟨.inl ⟨rfl, rfl⟩, True.intro⟩)
  (try simp only[↓jr,jw,seval,DL,e1,axs_append])
  exact ⟨SubB.v, SubB.v, SubB.sl rfl (SubBs.pure (encs_pur RIn.pur _)), SubB.ptr (by have := htx.next; unfold pid; omega), SubB.can hcan (by rw [pures_append, axs_pur]; simp only [AV.pures, AV.pure, RIn.pur]; rfl)⟩
 (try simp only[↓jr,jw,seval,hnx1])
 rw [List.drop_eq_nil_of_le (by omega), List.map_nil, List.append_nil] at hI1
 clear h1 hk
 refine JLOOP.of (σ := Nat × List Ax × Tok × JH) (fun s => s.1 ≤ b.facts.length ∧ TokExt j s.2.2.2 ∧ CanApp j s.2.2.2 s.2.2.1 1 s.2.1.length ∧ s.2.1 ++ (b.facts.drop s.1).map Ax.fac = T2 ∧ (s.2.1 = [] → s.2.2.1 = .nil)) (fun s => b.facts.length - s.1)
  (fun s => [(41, I64 s.1), (40, I64 b.facts.length), (39, .sl .none b.facts.length (encs Fac.enc b.facts)), (1, .ptr (pid j.next 0) 0), (3, .sl s.2.2.1 s.2.1.length (axs s.2.1))])
  (fun s => Pg.ext s.2.2.2 [.cells 30 b.enc]) (0, ac1, tk1, jx1) ⟨Nat.zero_le _, ht1, hc1, by simp only [List.drop_zero]; rw [hI1]; exact hT2.symm, hz1⟩ ?_ (JDropH.refl _) ?_
 ·(try simp only[↓jr,jw,seval,DL])
  exact ⟨SubB.v, SubB.v, SubB.sl rfl (SubBs.pure (encs_pur Fac.pur _)), SubB.ptr (by have := ht1.next; unfold pid; omega), SubB.can hc1 (axs_pur _)⟩
 rintro ⟨k, ac2, tk2, jx2⟩ ⟨hk, ht2, hc2, hI2, hz2⟩
 simp only at hk ht2 hc2 hI2 hz2
 have hnx2 := ht2.next
 (try simp only[↓jr,jw,seval,hnx2])
 refine wq.intro (fun h1 => ?_) (fun h1 => ?_)
 ·have hlt : k < (b.facts).length := by omega
  obtain ⟨x, r, hd⟩ : ∃ c_ l_, List.drop k (b.facts) = c_ :: l_ := ⟨_, _, List.drop_eq_getElem_cons hlt⟩
  have hd1 : List.drop (k + 1) (b.facts) = r := by rw [← List.drop_drop, hd]; rfl
  have hmem : x ∈ b.facts := List.mem_of_mem_drop (hd ▸ List.mem_cons_self)
  have e2 : ac2.length ≤ 4000000 := by have := congrArg List.length hI2; rw [List.length_append] at this; omega
  rw [hd] at hI2
  (try simp only[↓jr,jw,seval,hd,hnx2])
  refine wc.intro (by omega) ?_
  (try simp only[↓jr,jw,seval,hd,hnx2])
  refine JAPP.can' hc2.push (ht2.push 1) (by rw [axs_len, Nat.mul_one]) rfl rfl (by omega) (by omega) ?_
  intro tok1 j1 hcan htx hle
  have hle' : jx2.tnext ≤ j1.tnext := Nat.le_trans (Nat.le_succ _) hle
  have hn3 := htx.next
  (try simp only[↓jr,jw,seval,hn3])
  refine wc.intro (by unfold R64; omega) ?_
  (try simp only[↓jr,jw,seval,hn3])
  have e1 : (ac2 ++ [Ax.fac x]).length = ac2.length + 1 := by simp
  refine JNEXT.of (k + 1, ac2 ++ [Ax.fac x], tok1, j1) ⟨by simp only; omega, htx, by rw [e1]; exact hcan, by simp only [hd1]; rw [← hI2]; simp, fun e => by simp at e⟩ (by simp only; omega) ?_ (JDropH.nextT ht2 htx (TokExt.refl _) hle' ⟨.inl ⟨rfl, rfl⟩, True.intro⟩)
  (try simp only[↓jr,jw,seval,DL,e1,axs_append])
  exact ⟨SubB.v, SubB.v, SubB.sl rfl (SubBs.pure (encs_pur Fac.pur _)), SubB.ptr (by have := htx.next; unfold pid; omega), SubB.can hcan (by rw [pures_append, axs_pur]; simp only [AV.pures, AV.pure, Fac.pur]; rfl)⟩
 (try simp only[↓jr,jw,seval,hnx2])
 rw [List.drop_eq_nil_of_le (by omega), List.map_nil, List.append_nil] at hI2
 clear h1 hk
 refine JLOOP.of (σ := Nat × List Ax × Tok × JH) (fun s => s.1 ≤ b.links.length ∧ TokExt j s.2.2.2 ∧ CanApp j s.2.2.2 s.2.2.1 1 s.2.1.length ∧ s.2.1 ++ (b.links.drop s.1).map Ax.lnk = T3 ∧ (s.2.1 = [] → s.2.2.1 = .nil)) (fun s => b.links.length - s.1)
  (fun s => [(54, I64 s.1), (53, I64 b.links.length), (52, .sl .none b.links.length (encs Lnk.enc b.links)), (1, .ptr (pid j.next 0) 0), (3, .sl s.2.2.1 s.2.1.length (axs s.2.1))])
  (fun s => Pg.ext s.2.2.2 [.cells 30 b.enc]) (0, ac2, tk2, jx2) ⟨Nat.zero_le _, ht2, hc2, by simp only [List.drop_zero]; rw [hI2]; exact hT3.symm, hz2⟩ ?_ (JDropH.refl _) ?_
 ·(try simp only[↓jr,jw,seval,DL])
  exact ⟨SubB.v, SubB.v, SubB.sl rfl (SubBs.pure (encs_pur Lnk.pur _)), SubB.ptr (by have := ht2.next; unfold pid; omega), SubB.can hc2 (axs_pur _)⟩
 rintro ⟨k, ac3, tk3, jx3⟩ ⟨hk, ht3, hc3, hI3, hz3⟩
 simp only at hk ht3 hc3 hI3 hz3
 have hnx3 := ht3.next
 (try simp only[↓jr,jw,seval,hnx3])
 refine wq.intro (fun h1 => ?_) (fun h1 => ?_)
 ·have hlt : k < (b.links).length := by omega
  obtain ⟨x, r, hd⟩ : ∃ c_ l_, List.drop k (b.links) = c_ :: l_ := ⟨_, _, List.drop_eq_getElem_cons hlt⟩
  have hd1 : List.drop (k + 1) (b.links) = r := by rw [← List.drop_drop, hd]; rfl
  have hmem : x ∈ b.links := List.mem_of_mem_drop (hd ▸ List.mem_cons_self)
  have e2 : ac3.length ≤ 4000000 := by have := congrArg List.length hI3; rw [List.length_append] at this; omega
  rw [hd] at hI3
  (try simp only[↓jr,jw,seval,hd,hnx3])
  refine wc.intro (by omega) ?_
  (try simp only[↓jr,jw,seval,hd,hnx3])
  refine JAPP.can' hc3.push (ht3.push 1) (by rw [axs_len, Nat.mul_one]) rfl rfl (by omega) (by omega) ?_
  intro tok1 j1 hcan htx hle
  have hle' : jx3.tnext ≤ j1.tnext := Nat.le_trans (Nat.le_succ _) hle
  have hn3 := htx.next
  (try simp only[↓jr,jw,seval,hn3])
  refine wc.intro (by unfold R64; omega) ?_
  (try simp only[↓jr,jw,seval,hn3])
  have e1 : (ac3 ++ [Ax.lnk x]).length = ac3.length + 1 := by simp
  refine JNEXT.of (k + 1, ac3 ++ [Ax.lnk x], tok1, j1) ⟨by simp only; omega, htx, by rw [e1]; exact hcan, by simp only [hd1]; rw [← hI3]; simp, fun e => by simp at e⟩ (by simp only; omega) ?_ (JDropH.nextT ht3 htx (TokExt.refl _) hle' ⟨.inl ⟨rfl, rfl⟩, True.intro⟩)
  (try simp only[↓jr,jw,seval,DL,e1,axs_append])
  exact ⟨SubB.v, SubB.v, SubB.sl rfl (SubBs.pure (encs_pur Lnk.pur _)), SubB.ptr (by have := htx.next; unfold pid; omega), SubB.can hcan (by rw [pures_append, axs_pur]; simp only [AV.pures, AV.pure, Lnk.pur]; rfl)⟩
 (try simp only[↓jr,jw,seval,hnx3])
 rw [List.drop_eq_nil_of_le (by omega), List.map_nil, List.append_nil] at hI3
 clear h1 hk
 rw [hTT] at hI3
 subst hI3
 exact kQ tk3 jx3 _ hc3 hz3 ht3
theorem s_kbAll (b : Bas) (hi : b.incls.length ≤ 1000000) (hr : b.roles.length ≤ 1000000) (hf : b.facts.length ≤ 1000000) (hl : b.links.length ≤ 1000000) (j : JH) : JC Tryz.prog G 37 [.agg b.enc] j (RET (.sl .none b.axs.length (axs b.axs)) j) :=
 s_kbAllG b hi hr hf hl j fun tok jx l _ _ ht => JFIN.rb (SubB.sl rfl (SubBs.pure (axs_pur _))) ht
end
end
end Go.Proofs.YtcjlpklgnknpgaaGreatDoor.Pg
