/-
  Structs of numbers held against themselves.
-/
import Derived.Test.YtnkkeenclhncmaaDoorKd
set_option linter.unusedVariables false
set_option linter.unusedSimpArgs false
set_option maxRecDepth 100000
set_option maxHeartbeats 8000000
namespace Go.Proofs.YtnkkeenclhncmaaDoor.Pg
open Go
def stOK (P : Program) (t : TypeId) (n : Nat) : Bool := !(P.eqGuardType P.depth t) && !(P.stoodInHeld t) && match P.underlying t with
  | some (.struct fs) => fs.toList.all fun f => (match P.underlying f.type with | some (.int _) => true | _ => false) && (pureRun P (isAgg f.type) == some false) && decide (f.offset < n)
  | _ => false
theorem pure_loop {P : Program} {α β : Type} {b : β} {body : α → β → Sem (ForInStep β)} : ∀ {l : List α}, (∀ x ∈ l, pureRun P (body x b) = some (.yield b)) → pureRun P (forIn l b body) = some b
  | [], _ => by rw [List.forIn_nil]; rfl
  | x :: l, h => by
    rw [List.forIn_cons, pureRun_bind, h x List.mem_cons_self]
    exact pure_loop fun y hy => h y (List.mem_cons_of_mem _ hy)
abbrev ivs (us : List Int) : Array Value := (us.map fun x => Value.int .i64 x).toArray
theorem eq_st {P : Program} {t : TypeId} {us : List Int} (h : stOK P t us.length = true) : pureRun P (Op.equal t (.agg (ivs us)) (.agg (ivs us))) = some true := by
  unfold stOK at h
  simp only [Bool.and_eq_true, Bool.not_eq_true'] at h
  obtain ⟨⟨_, hs⟩, h⟩ := h
  split at h
  rotate_left
  · cases h
  rename_i fs hu
  have hpr : pureRun P program = some P := rfl
  show pureRun P (Op.equalIn (9998 + 1 + 1) t _ _) = _
  rw [Op.equalIn, pureRun_bind, pureRun_underlying hu]
  simp only [Option.bind_some]
  rw [pureRun_bind, hpr]
  simp only [Option.bind_some, hs, Bool.false_eq_true, if_false]
  rw [pureRun_bind, ← Array.forIn_toList, pure_loop (b := (none, ())) ?_]
  · rfl
  intro f hf
  have hq := List.all_eq_true.1 h f hf
  simp only [Bool.and_eq_true, beq_iff_eq, decide_eq_true_eq] at hq
  obtain ⟨⟨h1, h2⟩, h3⟩ := hq
  split at h1
  rotate_left
  · cases h1
  rename_i k hk
  have hp : pureRun P (part f.type (ivs us) f.offset) = some (.int .i64 us[f.offset]) := by
    unfold part
    rw [pureRun_bind, h2]
    simp only [Option.bind_some, Bool.false_eq_true, if_false]
    have : (ivs us)[f.offset]? = some (.int .i64 us[f.offset]) := by simp [h3]
    rw [this]; rfl
  have he : pureRun P (Op.equalIn (9998 + 1) f.type (.int .i64 us[f.offset]) (.int .i64 us[f.offset])) = some true := by
    rw [Op.equalIn, pureRun_bind, pureRun_underlying hk]
    simp [pureRun_pure]
  split
  · rw [pureRun_bind, hp]
    simp only [Option.bind_some]
    rw [pureRun_bind, hp]
    simp only [Option.bind_some]
    rw [pureRun_bind, he]
    rfl
  · rfl
theorem lit_ints : ∀ us : List Int, lits (ints us) = some (us.map fun x => Value.int .i64 x)
  | [] => rfl
  | x :: us => by
    show (match lit (I64 x), lits (ints us) with | some a, some b => some (a :: b) | _, _ => none) = _
    rw [lit_ints us]; rfl
section
variable {P : Program} {G : Nat → Option (List AV)}
theorem st_step {o : Oper} {t yt : TypeId} {a b : Nat} {us : List Int} {l : L} {fr : Fr} {h : AH} (ho : o.op = .binOp .neq t (.tmp a) (.tmp b) yt) (hok : stOK P t us.length = true) (ha : lk l a = .agg (ints us)) (hb : lk l b = .agg (ints us)) (hf : ∀ i, fr.get i = lk l i) : astep P G (fun _ _ _ => none) fr h o = some (.ret (BOO false), h) := by
  have hu : ∃ fs, P.underlying t = some (.struct fs) := by
    unfold stOK at hok
    split at hok
    · exact ⟨_, ‹_›⟩
    · simp at hok
  obtain ⟨fs, hu⟩ := hu
  have hgd : P.eqGuardType P.depth t = false := by
    unfold stOK at hok
    simp only [Bool.and_eq_true, Bool.not_eq_true'] at hok
    exact hok.1.1
  have hq := eq_st hok
  have hl : lit (.agg (ints us)) = some (.agg (ivs us)) := by
    show (lits (ints us)).map _ = _
    rw [lit_ints]; rfl
  have hea : (aev G fr (.tmp a)).bind lit = some (.agg (ivs us)) := by
    show (some (fr.get a)).bind lit = _
    rw [hf a, ha]; exact hl
  have heb : (aev G fr (.tmp b)).bind lit = some (.agg (ivs us)) := by
    show (some (fr.get b)).bind lit = _
    rw [hf b, hb]; exact hl
  have hr : pureRun P (do eqGuard .neq t (.tmp a) (.tmp b) (.agg (ivs us)) (.agg (ivs us)); binOp .neq t (.agg (ivs us)) (.agg (ivs us))) = some (.bool false) := by
    have hg : pureRun P (eqGuard .neq t (.tmp a) (.tmp b) (.agg (ivs us)) (.agg (ivs us))) = some () := by
      have hpr : pureRun P program = some P := rfl
      unfold eqGuard
      simp [pureRun_bind, hpr, hgd, pureRun_pure]
    rw [pureRun_bind, hg]
    show pureRun P (binOp .neq t _ _) = _
    simp only [binOp, pureRun_bind, hq, Option.bind_some, pureRun_pure]; rfl
  have hk : kindOf o = .p := by simp [kindOf, ho]
  have hz : pop P G fr o = some (BOO false) := by
    simp only [pop, ho]
    rw [inilv_none (fun m e => by rw [hu] at e; cases e), alit_binL ho hea heb hr rfl]
  unfold astep
  rw [hk]
  simp only [hz, Option.map_some]
theorem JDGEN.same {o : Oper} {t yt : TypeId} {a b : Nat} {us : List Int} {l : L} {j : JH} {K : AV → JH → Prop} (ho : o.op = .binOp .neq t (.tmp a) (.tmp b) yt) (hok : stOK P t us.length = true) (ha : lk l a = .agg (ints us)) (hb : lk l b = .agg (ints us)) (k : K (BOO false) j) : @JDGEN P G o l j ⟨K⟩ :=
  ⟨BOO false, fun _ _ hf _ => st_step ho hok ha hb hf, k⟩
end
end Go.Proofs.YtnkkeenclhncmaaDoor.Pg
