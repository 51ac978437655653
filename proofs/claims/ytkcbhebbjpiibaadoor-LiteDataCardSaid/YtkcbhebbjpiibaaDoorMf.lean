/-
  Slices that grow side by side, each with a token of its own.
-/
import Derived.Test.YtkcbhebbjpiibaaDoorLx
set_option linter.unusedVariables false
set_option linter.unusedSimpArgs false
set_option linter.defProp false
set_option maxRecDepth 20000
namespace Go.Proofs.YtkcbhebbjpiibaaDoor.Pg
open Go
/-! ### Rows that grow, each with a token of its own -/
abbrev RowT := Tok × List Nat
def rwc (R : List RowT) : List AV := R.map fun x => .sl x.1 x.2.length (natv x.2)
def rwn (l : List (List Nat)) : List AV := l.map fun x => .sl .none x.length (natv x)
structure Fam (j0 j : JH) (R : List RowT) : Prop where
  can : ∀ (i : Nat) (x : RowT), R[i]? = some x → CanApp j0 j x.1 1 x.2.length
  own : ∀ (i k : Nat) (x y : RowT) (t : Nat), R[i]? = some x → R[k]? = some y → x.1 = .own t 0 1 → y.1 = .own t 0 1 → i = k
theorem Fam.push {j0 j : JH} {R : List RowT} (h : Fam j0 j R) (F : Nat) : Fam j0 (j.pushTok F) R := ⟨fun i x hx => (h.can i x hx).push, h.own⟩
theorem get_set {R : List RowT} {i k : Nat} {y z : RowT} (h : (R.set i z)[k]? = some y) : (k = i ∧ y = z) ∨ (k ≠ i ∧ R[k]? = some y) := by
  rw [List.getElem?_set] at h
  by_cases e : i = k
  · subst e
    rw [if_pos rfl] at h
    split at h
    · cases h; exact .inl ⟨rfl, rfl⟩
    · cases h
  · rw [if_neg e] at h; exact .inr ⟨fun q => e q.symm, h⟩
theorem JAPP.fam {j0 j : JH} {objs : List AObj} {tok' : Tok} {R : List RowT} {i v : Nat} {x : RowT} {K : AV → JH → Prop} (hx : R[i]? = some x) (h : Fam j0 j R) (ht : TokExt j0 j) (hb : x.2.length ≤ 1000000)
    (k : ∀ tok1 j1, Fam j0 j1 (R.set i (tok1, x.2 ++ [v])) → TokExt j0 j1 → j.tnext ≤ j1.tnext → K (.sl tok1 (x.2.length + 1) (natv x.2 ++ [I64 v])) (ext j1 objs)) :
    @JAPP (ext j objs) 1 8 (.sl x.1 x.2.length (natv x.2)) (.sl tok' 1 [I64 v]) ⟨K⟩ := by
  obtain ⟨tok, l⟩ := x
  simp only at hb
  refine ⟨⟨by rw [natv_len, Nat.mul_one], rfl, rfl, by simp only; omega, by simp only; omega⟩, fun e => absurd e (by decide), fun _ => ?_⟩
  have hc := h.can i _ hx
  rcases hc with ⟨q1, q2⟩ | ⟨t, q1, q2, q3, q4⟩
  · simp only at q1 q2
    subst q1
    have hl : l = [] := List.eq_nil_of_length_eq_zero q2
    subst hl
    refine k (.own j.tnext 0 1) (j.pushTok 1) ⟨fun n y hy => ?_, fun n n' y y' t hy hy' e1 e2 => ?_⟩ (ht.push 1) (Nat.le_succ _)
    · rcases get_set hy with ⟨rfl, rfl⟩ | ⟨-, hy⟩
      · exact .inr ⟨j.tnext, ht.tnext, Nat.lt_succ_self _, rfl, by show (if j.tnext = j.tnext then some 1 else _) = _; rw [if_pos rfl]; rfl⟩
      · exact (h.can n y hy).push
    · rcases get_set hy with ⟨rfl, rfl⟩ | ⟨hne, hz⟩ <;> rcases get_set hy' with ⟨rfl, rfl⟩ | ⟨hne', hz'⟩
      · rfl
      · cases e1
        rcases h.can n' y' hz' with ⟨q, -⟩ | ⟨t', a1, a2, a3, a4⟩
        · rw [q] at e2; cases e2
        · rw [a3] at e2; cases e2; omega
      · cases e2
        rcases h.can n y hz with ⟨q, -⟩ | ⟨t', a1, a2, a3, a4⟩
        · rw [q] at e1; cases e1
        · rw [a3] at e1; cases e1; omega
      · exact h.own n n' y y' t hz hz' e1 e2
  · simp only at q3 q4
    subst q3
    refine ⟨⟨by rw [ext_tok, Nat.zero_add]; exact q4, rfl⟩, ?_⟩
    rw [Nat.zero_add]
    refine k (.own t 0 1) (j.setTok t (l.length + 1)) ⟨fun n y hy => ?_, fun n n' y y' u hy hy' e1 e2 => ?_⟩ (ht.setT q1 _) (Nat.le_refl _)
    · rcases get_set hy with ⟨rfl, rfl⟩ | ⟨hne, hz⟩
      · exact .inr ⟨t, q1, q2, rfl, by show (if t = t then some (l.length + 1) else _) = _; rw [if_pos rfl, List.length_append]; rfl⟩
      · rcases h.can n y hz with q | ⟨t', a1, a2, a3, a4⟩
        · exact .inl q
        · refine .inr ⟨t', a1, a2, a3, ?_⟩
          show (if t' = t then some (l.length + 1) else j.tok t') = _
          rw [if_neg (fun e => by subst e; exact hne (h.own n i y _ t' hz hx a3 rfl))]; exact a4
    · rcases get_set hy with ⟨rfl, rfl⟩ | ⟨hne, hz⟩ <;> rcases get_set hy' with ⟨rfl, rfl⟩ | ⟨hne', hz'⟩
      · rfl
      · exact h.own _ _ _ y' u hx hz' e1 e2
      · exact h.own _ _ y _ u hz hx e1 e2
      · exact h.own n n' y y' u hz hz' e1 e2
theorem rwc_len {R : List RowT} : (rwc R).length = R.length := by simp [rwc]
theorem rwc_ld {R : List RowT} {i : Nat} {x : RowT} (h : R[i]? = some x) : icut none (rwc R) i = some (.sl x.1 x.2.length (natv x.2)) := by
  unfold icut rwc; simp only [List.getElem?_map, h, Option.map_some]
theorem rwc_st {R : List RowT} {i v : Nat} {t : Tok} {l : List Nat} (h : i < R.length) : splice (rwc R) i [.sl t (l.length + 1) (natv l ++ [I64 v])] = rwc (R.set i (t, l ++ [v])) := by
  unfold splice rwc
  rw [List.map_set]
  simp only [List.length_cons, List.length_nil, List.length_append, natv_append, Nat.zero_add]
  rw [List.set_eq_take_append_cons_drop, if_pos (by simpa using h)]
  simp only [List.append_assoc, List.cons_append, List.nil_append]; rfl
theorem subs_map {no nt : Nat} {α : Type} {f g : α → AV} : ∀ (l : List α), (∀ x ∈ l, SubB no nt (f x) (g x)) → SubBs no nt (l.map f) (l.map g)
  | [], _ => True.intro
  | x :: l, h => ⟨h x List.mem_cons_self, subs_map l fun y hy => h y (List.mem_cons_of_mem _ hy)⟩
theorem rwc_sub {j0 j : JH} {R : List RowT} {no : Nat} (h : Fam j0 j R) : SubBs no j.tnext (rwc R) (rwc R) :=
  subs_map R fun x hx => by
    obtain ⟨i, hi⟩ := List.getElem?_of_mem hx
    exact SubB.can (h.can i x hi) (natv_pur _)
theorem rwn_sub {no nt : Nat} (R : List RowT) : SubBs no nt (rwc R) (rwn (R.map (·.2))) := by
  unfold rwn; rw [List.map_map]
  exact subs_map R fun x _ => SubB.sl rfl (SubBs.pure (natv_pur _))
end Go.Proofs.YtkcbhebbjpiibaaDoor.Pg
