/-
  What concepts and knowledge bases read as.
-/
import Derived.Test.YtkcbhebbjpiibaaDoorRowA
import Derived.Test.YtkcbhebbjpiibaaDoorLj
import Derived.Test.YtkcbhebbjpiibaaDoorLe
import Derived.Below
import Derived.Carry
set_option linter.unusedVariables false
set_option linter.unusedSimpArgs false
set_option maxRecDepth 20000
namespace Go.Proofs.YtkcbhebbjpiibaaDoor.Pg
open Go
section
section
variable {H : Type} {enc : TypeId × Value → H} {W : World} {α β : Type}
def structL (P : Program) (t : TypeId) : Option (List (TypeId × Nat)) :=
  match P.underlying t with
  | some (.struct fs) => some (fs.toList.map fun f => (f.type, f.offset))
  | _ => none
theorem struct_of {P : Program} {t : TypeId} {L : List (TypeId × Nat)} (h : structL P t = some L) : ∃ fs, P.underlying t = some (.struct fs) ∧ fs.toList.map (fun f => (f.type, f.offset)) = L := by
  unfold structL at h
  split at h
  · rename_i fs hu; exact ⟨fs, hu, by simpa using h⟩
  · cases h
theorem decS {P : Program} {t : TypeId} {L : List (TypeId × Nat)} {m : Nat} {e : α → List AV} {ok : α → Prop} (h : structL P t = some L) (hc : P.cellsOf t = m) (k : ∀ F, DF enc P W F L 0 m e ok) (F : Nat) : Dec enc P W F t m e ok := by
  obtain ⟨fs, hu, hL⟩ := struct_of h
  exact (DF.dec hu hL hc (k F)).mono (Nat.le_succ F)
theorem decL {P : Program} {t el : TypeId} {m : Nat} {e : α → List AV} {ok : α → Prop} (hu : P.underlying t = some (.slice el)) (hc : P.cellsOf el = m) (hm0 : 0 < m) (hb : 0 < P.bytesOf el) (hm : ∀ a, (e a).length = m) (h : ∀ F, Dec enc P W F el m e ok) (F : Nat) :
    Dec enc P W F t 1 (fun l : List α => [.sl .none l.length (encs e l)]) (fun l => l.length ≤ reachBytes ∧ ∀ a ∈ l, ok a) :=
  (dec_slice hu hc hm0 hb hm (h F)).mono (Nat.le_succ F)
theorem u_int : Tryd.prog.underlying 3 = some (.int .i64) := by kernel_rfl
theorem u_str : Tryd.prog.underlying 9 = some .string := by kernel_rfl
theorem c_int : Tryd.prog.cellsOf 3 = 1 := by kernel_rfl
theorem u_strs : Tryd.prog.underlying 22 = some (.slice 9) := by kernel_rfl
theorem u_cons : Tryd.prog.underlying 41 = some (.slice 43) := by kernel_rfl
theorem u_incls : Tryd.prog.underlying 25 = some (.slice 89) := by kernel_rfl
theorem u_rols : Tryd.prog.underlying 26 = some (.slice 82) := by kernel_rfl
theorem u_facts : Tryd.prog.underlying 27 = some (.slice 92) := by kernel_rfl
theorem u_links : Tryd.prog.underlying 28 = some (.slice 94) := by kernel_rfl
theorem s_con : structL Tryd.prog 43 = some [(3, 0), (3, 1), (41, 2)] := by kernel_rfl
theorem s_nms : structL Tryd.prog 24 = some [(22, 0), (22, 1), (22, 2)] := by kernel_rfl
theorem s_inc : structL Tryd.prog 89 = some [(43, 0), (43, 3)] := by kernel_rfl
theorem s_rin : structL Tryd.prog 82 = some [(3, 0), (3, 1)] := by kernel_rfl
theorem s_fac : structL Tryd.prog 92 = some [(3, 0), (43, 1)] := by kernel_rfl
theorem s_lnk : structL Tryd.prog 94 = some [(3, 0), (3, 1), (3, 2)] := by kernel_rfl
theorem s_bas : structL Tryd.prog 30 = some [(24, 0), (25, 3), (26, 4), (27, 5), (28, 6)] := by kernel_rfl
theorem c_one : Tryd.prog.cellsOf 9 = 1 ∧ Tryd.prog.cellsOf 22 = 1 ∧ Tryd.prog.cellsOf 41 = 1 ∧ Tryd.prog.cellsOf 25 = 1 ∧ Tryd.prog.cellsOf 26 = 1 ∧ Tryd.prog.cellsOf 27 = 1 ∧ Tryd.prog.cellsOf 28 = 1 :=
  ⟨by kernel_rfl, by kernel_rfl, by kernel_rfl, by kernel_rfl, by kernel_rfl, by kernel_rfl, by kernel_rfl⟩
theorem c_recs : Tryd.prog.cellsOf 43 = 3 ∧ Tryd.prog.cellsOf 24 = 3 ∧ Tryd.prog.cellsOf 89 = 6 ∧ Tryd.prog.cellsOf 82 = 2 ∧ Tryd.prog.cellsOf 92 = 4 ∧ Tryd.prog.cellsOf 94 = 3 ∧ Tryd.prog.cellsOf 30 = 7 :=
  ⟨by kernel_rfl, by kernel_rfl, by kernel_rfl, by kernel_rfl, by kernel_rfl, by kernel_rfl, by kernel_rfl⟩
theorem b_pos : 0 < Tryd.prog.bytesOf 9 ∧ 0 < Tryd.prog.bytesOf 43 ∧ 0 < Tryd.prog.bytesOf 89 ∧ 0 < Tryd.prog.bytesOf 82 ∧ 0 < Tryd.prog.bytesOf 92 ∧ 0 < Tryd.prog.bytesOf 94 := by
  refine ⟨?_, ?_, ?_, ?_, ?_, ?_⟩ <;> exact of_decide_eq_true (by kernel_rfl)
theorem oks_of : ∀ {l : List Con}, (∀ a ∈ l, a.ok) → Con.oks l
  | [], _ => by simp only [Con.oks]
  | c :: l, h => by simp only [Con.oks]; exact ⟨h c List.mem_cons_self, oks_of fun a ha => h a (List.mem_cons_of_mem _ ha)⟩
theorem dec_con : ∀ F, Dec enc Tryd.prog W F 43 3 Con.enc Con.ok
  | 0 => fun fuel base sp held cs x hF h _ => by
    have : fuel = 0 := by omega
    subst this; simp [DataW.trod] at h
  | F + 1 => by
    have ih := dec_con F
    have hs := (dec_slice (enc := enc) u_cons c_recs.1 (by decide) b_pos.2.1 Con.len ih).mono (Nat.le_succ F)
    obtain ⟨fs, hu, hL⟩ := struct_of s_con
    refine (DF.dec hu hL c_recs.1 (DF_cons (dec_int u_int) c_int (DF_cons (dec_int u_int) c_int (DF_cons hs c_one.2.2.1 DF_nil)))).map (fun p => .mk p.1 p.2.1 p.2.2.1) (fun p => ?_) (fun p h => ?_)
    · simp [Con.enc, Con.encs_eq]
    · obtain ⟨h1, h2, ⟨h3, h4⟩, _⟩ := h
      simp only [Con.ok]
      exact ⟨h1, h2, by unfold reachBytes at h3; omega, oks_of h4⟩
theorem dec_nms (F : Nat) : Dec enc Tryd.prog W F 24 3 Nms.enc (fun n => n.ok ∧ n.short) := by
  have hl := decL (enc := enc) (W := W) u_strs c_one.1 (by decide) b_pos.1 (fun _ => rfl) (fun F => dec_str u_str)
  refine (decS s_nms c_recs.2.1 (fun F => DF_cons (hl F) c_one.2.1 (DF_cons (hl F) c_one.2.1 (DF_cons (hl F) c_one.2.1 DF_nil))) F).map (fun p => ⟨p.1, p.2.1, p.2.2.1⟩) (fun p => ?_) (fun p h => ?_)
  · have e : ∀ l : List ByteArray, encs (fun s => [STR s]) l = strs l := fun l => by
      induction l with
      | nil => rfl
      | cons s l ih => rw [encs_cons, ih]; rfl
    simp [Nms.enc, e]
  · obtain ⟨⟨a1, a2⟩, ⟨b1, b2⟩, ⟨c1, c2⟩, _⟩ := h
    unfold reachBytes at a1 b1 c1
    refine ⟨⟨by simp only; omega, by simp only; omega, by simp only; omega⟩, fun l hl s hs => ?_⟩
    simp only [Nms.lists, List.mem_cons, List.not_mem_nil, or_false] at hl
    rcases hl with rfl | rfl | rfl
    · exact a2 s hs
    · exact b2 s hs
    · exact c2 s hs
theorem dec_inc (F : Nat) : Dec enc Tryd.prog W F 89 6 Inc.enc (fun x => x.sub.ok ∧ x.sup.ok) :=
  (decS s_inc c_recs.2.2.1 (fun F => DF_cons (dec_con F) c_recs.1 (DF_cons (dec_con F) c_recs.1 DF_nil)) F).map (fun p => ⟨p.1, p.2.1⟩) (fun p => by simp [Inc.enc]) (fun p h => ⟨h.1, h.2.1⟩)
theorem dec_rin (F : Nat) : Dec enc Tryd.prog W F 82 2 RIn.enc (fun x => R64 x.sub ∧ R64 x.sup) :=
  (decS s_rin c_recs.2.2.2.1 (fun F => DF_cons (dec_int u_int) c_int (DF_cons (dec_int u_int) c_int DF_nil)) F).map (fun p => ⟨p.1, p.2.1⟩) (fun p => rfl) (fun p h => ⟨h.1, h.2.1⟩)
theorem dec_fac (F : Nat) : Dec enc Tryd.prog W F 92 4 Fac.enc (fun x => R64 x.ind ∧ x.con.ok) :=
  (decS s_fac c_recs.2.2.2.2.1 (fun F => DF_cons (dec_int u_int) c_int (DF_cons (dec_con F) c_recs.1 DF_nil)) F).map (fun p => ⟨p.1, p.2.1⟩) (fun p => by simp [Fac.enc]) (fun p h => ⟨h.1, h.2.1⟩)
theorem dec_lnk (F : Nat) : Dec enc Tryd.prog W F 94 3 Lnk.enc (fun x => R64 x.role ∧ R64 x.fr ∧ R64 x.to) :=
  (decS s_lnk c_recs.2.2.2.2.2.1 (fun F => DF_cons (dec_int u_int) c_int (DF_cons (dec_int u_int) c_int (DF_cons (dec_int u_int) c_int DF_nil))) F).map (fun p => ⟨p.1, p.2.1, p.2.2.1⟩) (fun p => rfl) (fun p h => ⟨h.1, h.2.1, h.2.2.1⟩)
theorem dec_bas (F : Nat) : Dec enc Tryd.prog W F 30 7 Bas.enc Bas.ok := by
  refine (decS s_bas c_recs.2.2.2.2.2.2 (fun F => DF_cons (dec_nms F) c_recs.2.1 (DF_cons (decL u_incls c_recs.2.2.1 (by decide) b_pos.2.2.1 Inc.len dec_inc F) c_one.2.2.2.1
    (DF_cons (decL u_rols c_recs.2.2.2.1 (by decide) b_pos.2.2.2.1 RIn.len dec_rin F) c_one.2.2.2.2.1 (DF_cons (decL u_facts c_recs.2.2.2.2.1 (by decide) b_pos.2.2.2.2.1 Fac.len dec_fac F) c_one.2.2.2.2.2.1
    (DF_cons (decL u_links c_recs.2.2.2.2.2.1 (by decide) b_pos.2.2.2.2.2 Lnk.len dec_lnk F) c_one.2.2.2.2.2.2 DF_nil))))) F).map (fun p => ⟨p.1, p.2.1, p.2.2.1, p.2.2.2.1, p.2.2.2.2.1⟩) (fun p => ?_) (fun p h => ?_)
  · simp [Bas.enc]
  · obtain ⟨⟨a1, a2⟩, ⟨b1, b2⟩, ⟨c1, c2⟩, ⟨d1, d2⟩, ⟨e1, e2⟩, _⟩ := h
    unfold reachBytes at b1 c1 d1 e1
    exact ⟨a1, a2, by simp only; omega, by simp only; omega, by simp only; omega, by simp only; omega, b2, c2, d2, e2⟩
end
end

/-! ### From the walk to the call: a law that returns true in memory that holds what is listed. -/
section
open Go.RowKit
section
variable {m : Int} {W : World}
/-- The listed table and the library's variable. -/
structure Laid (m : Int) (W : World) : Prop where
  max : W.cell? ⟨1, 0, none⟩ = some (.int .i64 m)
  args : ∀ (i : Nat) (x : Int), [(0 : Int), 0, 0, 1, 2, 2, 1, 1][i]? = some x → W.cell? ⟨0, i, none⟩ = some (.int .i64 x)
theorem Laid.glob (h : Laid m W) : ∀ g cs, GG m g = some cs → Cells (muW W) W cs g 0 := by
  intro g cs e
  have hint : ∀ {b : Nat} {l : List Int}, (∀ (i : Nat) (x : Int), l[i]? = some x → W.cell? ⟨b, i, none⟩ = some (.int .i64 x)) → Cells (muW W) W (ints l) b 0 := fun {b l} q =>
    Cells.mk fun i x hx => by
      unfold ints at hx
      rw [List.getElem?_map, Option.map_eq_some_iff] at hx
      obtain ⟨y, hy, rfl⟩ := hx
      have := q i y hy
      rw [Nat.zero_add]
      exact ⟨World.block_lt_of_cell? W ⟨b, i, none⟩ this, _, this, by simp [V, plain]⟩
  unfold GG at e
  split at e
  · rename_i hg; subst hg; cases e
    refine hint (l := [m]) fun i x hx => ?_
    cases i with
    | zero => simp at hx; subst hx; exact h.max
    | succ i => simp at hx
  · split at e
    · rename_i hg; subst hg; cases e
      exact hint (l := [0, 0, 0, 1, 2, 2, 1, 1]) h.args
    · cases e
theorem rel_start (h : Laid m W) : R W.heap.size (GG m) (muW W) AH.empty W where
  base := Nat.le_refl _
  obj := fun o b e => by cases e
  inj := fun o o' b e => by cases e
  com := fun b off e => ⟨(fun o q => by cases q), (fun t i q => by cases q), e⟩
  tok := fun t i e => by cases e
  tinj := fun t t' i i' e => by cases e
  sep := fun t i o e => by cases e
  next := fun o _ => rfl
  tnext := fun o _ => rfl
  glob := h.glob
theorem law_calls {f : FuncId} {avs : List AV} {vs : List Value} (hJ : ∀ j, JC Tryd.prog (GG m) f avs j (RET (BOO true) j)) (h : Laid m W) (hv : Vs (muW W) W avs vs) :
    Calls Tryd.prog f vs.toArray W fun e W' => e = .returned (.bool true) ∧ Below W.heap.size W W' := by
  refine (hJ _ AH.empty rfl W.heap.size (muW W) W vs (rel_start h) hv).mono ?_
  rintro e W' ⟨out, h', ⟨rfl, _⟩, μ', st, u, rfl, hu⟩
  simp only [V] at hu
  refine ⟨by rw [hu.2], st.env.1, st.env.2.1, st.env.2.2, st.size, fun k hk => st.keep k hk (fun o q => by cases q) (fun t i q => by cases q)⟩
end
end
end Go.Proofs.YtkcbhebbjpiibaaDoor.Pg
