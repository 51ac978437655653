/-
  The subconcepts: the program.
-/
import Derived.Test.YtcajjicdbphkpaaGreatDoorUf
import Derived.Test.YtcajjicdbphkpaaGreatDoorUk
set_option linter.unusedVariables false
set_option linter.unusedSimpArgs false
set_option maxRecDepth 100000
set_option maxHeartbeats 8000000
namespace Go.Proofs.YtcajjicdbphkpaaGreatDoor.Pg
open Go
noncomputable def subsOps : Array Oper := match rgat Tryz.prog 7 11 with | .region _ o _ => o | _ => #[]
theorem subs_reg : rgat Tryz.prog 7 11 = .region 11 subsOps true := by kernel_rfl
noncomputable def subsOp (k : Nat) : Oper := (subsOps[k]?).getD ⟨none, .move (.tmp 0), 0, "", #[], none⟩
theorem subs_late : LateOps subsOps 5 25 27 31 35 34 33 7 36 37 where
  o5 := ⟨subsOp 5, by kernel_rfl, by kernel_rfl, by kernel_rfl, by kernel_rfl⟩
  o6 := ⟨subsOp 6, by kernel_rfl, by kernel_rfl, by kernel_rfl, by kernel_rfl⟩
  o7 := ⟨subsOp 7, by kernel_rfl, by kernel_rfl, by kernel_rfl, by kernel_rfl⟩
  o8 := ⟨subsOp 8, by kernel_rfl, by kernel_rfl, by kernel_rfl, by kernel_rfl⟩
  n1 := by decide
abbrev subsD : List IOp := [⟨(some 31), none, (some (.r 7)), (.load none (.r 7))⟩, ⟨(some 32), none, (some (.r 9)), (.load (some 3) (.r 9))⟩, ⟨(some 34), none, (some (.r 31)), (.lenl (.r 31))⟩, ⟨(some 35), none, none, (.bsl 1 3 [.v (.int .i64 0), .v (.int .i64 0), .sl .nil 0 []] [(0, (3, .k (.agg [.v (.int .i64 0), .v (.int .i64 0), .sl .nil 0 []])))])⟩, ⟨(some 33), none, (some (.r 32)), (.call 22 [.r 32])⟩]
theorem subs_pre : cdraw1 Tryz.prog (subsOps.extract 0 5) = .draw subsD [(0, 4), (2, 4), (3, 4)] := by kernel_rfl
theorem subs_info : (Tryz.prog.info? 27).map (fun i => (i.size, i.bytes)) = some (3, 40) := by kernel_rfl
theorem subs_info2 : (Tryz.prog.info? 25).map (fun i => i.size) = some 1 := by kernel_rfl
theorem JORC.subs {G : Nat → Option (List AV)} {l : L} {j : JH} {Q : AX → L → JH → Prop} (k : jwp Tryz.prog G (.draw subsD [(0, 4), (2, 4), (3, 4)]) l j (lateQ 3 40 31 35 34 33 7 36 37 Q)) : @JORC Tryz.prog G (rgat Tryz.prog 7 11) l j ⟨Q⟩ := by
  rw [subs_reg]
  obtain ⟨i, hi, h1⟩ := Option.map_eq_some_iff.1 subs_info
  obtain ⟨it, hit, h2⟩ := Option.map_eq_some_iff.1 subs_info2
  simp only [Prod.mk.injEq] at h1
  obtain ⟨h1, h3⟩ := h1
  refine JORC.late hmix (p := 5) (by kernel_rfl) subs_pre (of_decide_eq_true (by kernel_rfl)) (by kernel_rfl) subs_late (by kernel_rfl) (of_decide_eq_true (by kernel_rfl)) (of_decide_eq_true (by kernel_rfl)) (show Tryz.prog.underlying 25 = some (.slice 27) by kernel_rfl) hi hit h2 (show azero Tryz.prog 27 = some [I64 0, I64 0, .sl .nil 0 []] by kernel_rfl) (by rw [h1]; rfl) (by omega) ?_
  rw [h1, h3]
  exact k
end Go.Proofs.YtcajjicdbphkpaaGreatDoor.Pg
