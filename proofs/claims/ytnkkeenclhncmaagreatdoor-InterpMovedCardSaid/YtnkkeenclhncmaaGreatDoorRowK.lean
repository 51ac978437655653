/-
  What knowledge bases read as.
-/
import Derived.Test.YtnkkeenclhncmaaGreatDoorRowU
import Derived.Test.YtnkkeenclhncmaaGreatDoorLj
set_option linter.unusedVariables false
set_option linter.unusedSimpArgs false
set_option maxRecDepth 100000
namespace Go.Proofs.YtnkkeenclhncmaaGreatDoor.Pg
open Go Go.RowKit Go.ChangeShapes Go.WideShapes Go.ChangeAt
section
variable {H : Type} {enc : TypeId × Value → H} {W : World}
theorem u_incls : Tryz.prog.underlying 25 = some (.slice 87) := by kernel_rfl
theorem u_rols : Tryz.prog.underlying 26 = some (.slice 69) := by kernel_rfl
theorem u_facts : Tryz.prog.underlying 27 = some (.slice 72) := by kernel_rfl
theorem u_links : Tryz.prog.underlying 28 = some (.slice 74) := by kernel_rfl
theorem s_inc : structL Tryz.prog 87 = some [(33, 0), (33, 3)] := by kernel_rfl
theorem s_rin : structL Tryz.prog 69 = some [(3, 0), (3, 1)] := by kernel_rfl
theorem s_fac : structL Tryz.prog 72 = some [(3, 0), (33, 1)] := by kernel_rfl
theorem s_lnk : structL Tryz.prog 74 = some [(3, 0), (3, 1), (3, 2)] := by kernel_rfl
theorem s_bas : structL Tryz.prog 30 = some [(24, 0), (25, 3), (26, 4), (27, 5), (28, 6)] := by kernel_rfl
theorem k_one : Tryz.prog.cellsOf 25 = 1 ∧ Tryz.prog.cellsOf 26 = 1 ∧ Tryz.prog.cellsOf 27 = 1 ∧ Tryz.prog.cellsOf 28 = 1 := ⟨by kernel_rfl, by kernel_rfl, by kernel_rfl, by kernel_rfl⟩
theorem k_recs : Tryz.prog.cellsOf 87 = 6 ∧ Tryz.prog.cellsOf 69 = 2 ∧ Tryz.prog.cellsOf 72 = 4 ∧ Tryz.prog.cellsOf 74 = 3 ∧ Tryz.prog.cellsOf 30 = 7 := ⟨by kernel_rfl, by kernel_rfl, by kernel_rfl, by kernel_rfl, by kernel_rfl⟩
theorem k_pos : 0 < Tryz.prog.bytesOf 87 ∧ 0 < Tryz.prog.bytesOf 69 ∧ 0 < Tryz.prog.bytesOf 72 ∧ 0 < Tryz.prog.bytesOf 74 := by
  refine ⟨?_, ?_, ?_, ?_⟩ <;> exact of_decide_eq_true (by kernel_rfl)
theorem dec_inc (F : Nat) : Dec enc Tryz.prog W F 87 6 Inc.enc (fun x => x.sub.ok ∧ x.sup.ok) :=
  (decSt s_inc k_recs.1 (fun F => DF_cons (dec_con F) c_recs.1 (DF_cons (dec_con F) c_recs.1 DF_nil)) F).map (fun p => ⟨p.1, p.2.1⟩) (fun p => by simp [Inc.enc]) (fun p h => ⟨h.1, h.2.1⟩)
theorem dec_rin (F : Nat) : Dec enc Tryz.prog W F 69 2 RIn.enc (fun x => R64 x.sub ∧ R64 x.sup) :=
  (decSt s_rin k_recs.2.1 (fun F => DF_cons (dec_int u_int) c_int (DF_cons (dec_int u_int) c_int DF_nil)) F).map (fun p => ⟨p.1, p.2.1⟩) (fun p => rfl) (fun p h => ⟨h.1, h.2.1⟩)
theorem dec_fac (F : Nat) : Dec enc Tryz.prog W F 72 4 Fac.enc (fun x => R64 x.ind ∧ x.con.ok) :=
  (decSt s_fac k_recs.2.2.1 (fun F => DF_cons (dec_int u_int) c_int (DF_cons (dec_con F) c_recs.1 DF_nil)) F).map (fun p => ⟨p.1, p.2.1⟩) (fun p => by simp [Fac.enc]) (fun p h => ⟨h.1, h.2.1⟩)
theorem dec_lnk (F : Nat) : Dec enc Tryz.prog W F 74 3 Lnk.enc (fun x => R64 x.role ∧ R64 x.fr ∧ R64 x.to) :=
  (decSt s_lnk k_recs.2.2.2.1 (fun F => DF_cons (dec_int u_int) c_int (DF_cons (dec_int u_int) c_int (DF_cons (dec_int u_int) c_int DF_nil))) F).map (fun p => ⟨p.1, p.2.1, p.2.2.1⟩) (fun p => rfl) (fun p h => ⟨h.1, h.2.1, h.2.2.1⟩)
theorem dec_bas (F : Nat) : Dec enc Tryz.prog W F 30 7 Bas.enc Bas.ok := by
  refine (decSt s_bas k_recs.2.2.2.2 (fun F => DF_cons (dec_nms F) c_recs.2 (DF_cons (decL u_incls k_recs.1 (by decide) k_pos.1 Inc.len dec_inc F) k_one.1
    (DF_cons (decL u_rols k_recs.2.1 (by decide) k_pos.2.1 RIn.len dec_rin F) k_one.2.1 (DF_cons (decL u_facts k_recs.2.2.1 (by decide) k_pos.2.2.1 Fac.len dec_fac F) k_one.2.2.1
    (DF_cons (decL u_links k_recs.2.2.2.1 (by decide) k_pos.2.2.2 Lnk.len dec_lnk F) k_one.2.2.2 DF_nil))))) F).map (fun p => ⟨p.1, p.2.1, p.2.2.1, p.2.2.2.1, p.2.2.2.2.1⟩) (fun p => ?_) (fun p h => ?_)
  · simp [Bas.enc]
  · obtain ⟨⟨a1, a2⟩, ⟨b1, b2⟩, ⟨c1, c2⟩, ⟨d1, d2⟩, ⟨e1, e2⟩, _⟩ := h
    unfold reachBytes at b1 c1 d1 e1
    exact ⟨a1, a2, by simp only; omega, by simp only; omega, by simp only; omega, by simp only; omega, b2, c2, d2, e2⟩
end
end Go.Proofs.YtnkkeenclhncmaaGreatDoor.Pg
