/-
  What knowledge bases read as.
-/
import Derived.Test.YtnkkeenclhncmaaDoorRowU
import Derived.Test.YtnkkeenclhncmaaDoorLj
set_option linter.unusedVariables false
set_option linter.unusedSimpArgs false
set_option maxRecDepth 100000
namespace Go.Proofs.YtnkkeenclhncmaaDoor.Pg
open Go Go.RowKit Go.ChangeShapes Go.WideShapes Go.ChangeAt
section
variable {H : Type} {enc : TypeId × Value → H} {W : World}
theorem u_incls : Tryd.prog.underlying 61 = some (.slice 92) := by kernel_rfl
theorem u_rols : Tryd.prog.underlying 62 = some (.slice 100) := by kernel_rfl
theorem u_facts : Tryd.prog.underlying 63 = some (.slice 94) := by kernel_rfl
theorem u_links : Tryd.prog.underlying 64 = some (.slice 102) := by kernel_rfl
theorem s_inc : structL Tryd.prog 92 = some [(44, 0), (44, 3)] := by kernel_rfl
theorem s_rin : structL Tryd.prog 100 = some [(3, 0), (3, 1)] := by kernel_rfl
theorem s_fac : structL Tryd.prog 94 = some [(3, 0), (44, 1)] := by kernel_rfl
theorem s_lnk : structL Tryd.prog 102 = some [(3, 0), (3, 1), (3, 2)] := by kernel_rfl
theorem s_bas : structL Tryd.prog 66 = some [(24, 0), (61, 3), (62, 4), (63, 5), (64, 6)] := by kernel_rfl
theorem k_one : Tryd.prog.cellsOf 61 = 1 ∧ Tryd.prog.cellsOf 62 = 1 ∧ Tryd.prog.cellsOf 63 = 1 ∧ Tryd.prog.cellsOf 64 = 1 := ⟨by kernel_rfl, by kernel_rfl, by kernel_rfl, by kernel_rfl⟩
theorem k_recs : Tryd.prog.cellsOf 92 = 6 ∧ Tryd.prog.cellsOf 100 = 2 ∧ Tryd.prog.cellsOf 94 = 4 ∧ Tryd.prog.cellsOf 102 = 3 ∧ Tryd.prog.cellsOf 66 = 7 := ⟨by kernel_rfl, by kernel_rfl, by kernel_rfl, by kernel_rfl, by kernel_rfl⟩
theorem k_pos : 0 < Tryd.prog.bytesOf 92 ∧ 0 < Tryd.prog.bytesOf 100 ∧ 0 < Tryd.prog.bytesOf 94 ∧ 0 < Tryd.prog.bytesOf 102 := by
  refine ⟨?_, ?_, ?_, ?_⟩ <;> exact of_decide_eq_true (by kernel_rfl)
theorem dec_inc (F : Nat) : Dec enc Tryd.prog W F 92 6 Inc.enc (fun x => x.sub.ok ∧ x.sup.ok) :=
  (decSt s_inc k_recs.1 (fun F => DF_cons (dec_con F) c_recs.1 (DF_cons (dec_con F) c_recs.1 DF_nil)) F).map (fun p => ⟨p.1, p.2.1⟩) (fun p => by simp [Inc.enc]) (fun p h => ⟨h.1, h.2.1⟩)
theorem dec_rin (F : Nat) : Dec enc Tryd.prog W F 100 2 RIn.enc (fun x => R64 x.sub ∧ R64 x.sup) :=
  (decSt s_rin k_recs.2.1 (fun F => DF_cons (dec_int u_int) c_int (DF_cons (dec_int u_int) c_int DF_nil)) F).map (fun p => ⟨p.1, p.2.1⟩) (fun p => rfl) (fun p h => ⟨h.1, h.2.1⟩)
theorem dec_fac (F : Nat) : Dec enc Tryd.prog W F 94 4 Fac.enc (fun x => R64 x.ind ∧ x.con.ok) :=
  (decSt s_fac k_recs.2.2.1 (fun F => DF_cons (dec_int u_int) c_int (DF_cons (dec_con F) c_recs.1 DF_nil)) F).map (fun p => ⟨p.1, p.2.1⟩) (fun p => by simp [Fac.enc]) (fun p h => ⟨h.1, h.2.1⟩)
theorem dec_lnk (F : Nat) : Dec enc Tryd.prog W F 102 3 Lnk.enc (fun x => R64 x.role ∧ R64 x.fr ∧ R64 x.to) :=
  (decSt s_lnk k_recs.2.2.2.1 (fun F => DF_cons (dec_int u_int) c_int (DF_cons (dec_int u_int) c_int (DF_cons (dec_int u_int) c_int DF_nil))) F).map (fun p => ⟨p.1, p.2.1, p.2.2.1⟩) (fun p => rfl) (fun p h => ⟨h.1, h.2.1, h.2.2.1⟩)
theorem dec_bas (F : Nat) : Dec enc Tryd.prog W F 66 7 Bas.enc Bas.ok := by
  refine (decSt s_bas k_recs.2.2.2.2 (fun F => DF_cons (dec_nms F) c_recs.2 (DF_cons (decL u_incls k_recs.1 (by decide) k_pos.1 Inc.len dec_inc F) k_one.1
    (DF_cons (decL u_rols k_recs.2.1 (by decide) k_pos.2.1 RIn.len dec_rin F) k_one.2.1 (DF_cons (decL u_facts k_recs.2.2.1 (by decide) k_pos.2.2.1 Fac.len dec_fac F) k_one.2.2.1
    (DF_cons (decL u_links k_recs.2.2.2.1 (by decide) k_pos.2.2.2 Lnk.len dec_lnk F) k_one.2.2.2 DF_nil))))) F).map (fun p => ⟨p.1, p.2.1, p.2.2.1, p.2.2.2.1, p.2.2.2.2.1⟩) (fun p => ?_) (fun p h => ?_)
  · simp [Bas.enc]
  · obtain ⟨⟨a1, a2⟩, ⟨b1, b2⟩, ⟨c1, c2⟩, ⟨d1, d2⟩, ⟨e1, e2⟩, _⟩ := h
    unfold reachBytes at b1 c1 d1 e1
    exact ⟨a1, a2, by simp only; omega, by simp only; omega, by simp only; omega, by simp only; omega, b2, c2, d2, e2⟩
end
end Go.Proofs.YtnkkeenclhncmaaDoor.Pg
