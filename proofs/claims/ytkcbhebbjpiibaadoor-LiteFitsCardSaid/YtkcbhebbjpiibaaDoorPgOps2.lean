/-
  Pg, part 4: structs, slices, maps: the operations on abstract values that have parts.
-/
import Derived.Test.YtkcbhebbjpiibaaDoorPgOps
import Derived.Laws.Append
import Derived.Laws.AppendOwn
import Derived.Laws.MakeOwn
import Derived.Laws.Build
set_option linter.unusedVariables false
set_option linter.unusedSimpArgs false
namespace Go.Proofs.YtkcbhebbjpiibaaDoor.Pg
open Go

/-! ### Filling -/
theorem fold_splice (off : Nat) : ∀ (us : List Value) (k : Nat) (cs : Array Value), off + k + us.length ≤ cs.size →
    ((us.zipIdx k).foldl (fun (cs : Array Value) (p : Value × Nat) => cs.setIfInBounds (off + p.2) p.1) cs).toList = cs.toList.take (off + k) ++ us ++ cs.toList.drop (off + k + us.length)
  | [], k, cs, h => by simp
  | u :: us, k, cs, h => by
    simp only [List.length_cons] at h
    simp only [List.zipIdx_cons, List.foldl_cons]
    rw [fold_splice off us (k + 1) _ (by simp; omega)]
    have hk : off + k < cs.toList.length := by simp; omega
    simp only [Array.toList_setIfInBounds, List.length_cons]
    rw [show off + (k + 1) = (off + k) + 1 from by omega, List.drop_set_of_lt (by omega)]
    rw [List.take_add_one, List.getElem?_set_self (by simpa using hk), List.take_set_of_le (Nat.le_refl _)]
    simp only [Option.toList_some, List.append_assoc, List.singleton_append]
    rw [show off + k + 1 + us.length = off + k + (us.length + 1) from by omega]
def afill (place : Nat → Option (Nat × Nat)) (cells : List AV) : List (Nat × AV) → Option (List AV)
  | [] => some cells
  | (i, x) :: rest => match place i with
    | none => none
    | some (off, size) => if x.known = true ∧ x.cells.length = size ∧ off + x.cells.length ≤ cells.length then afill place (splice cells off x.cells) rest else none
section
variable {P : Program} {B0 : Nat} {G : Nat → Option (List AV)} {μ : Mu} {h : AH} {w : World}

def VParts (μ : Mu) (w : World) : List (Nat × AV) → List (Nat × Value) → Prop
  | [], ps => ps = []
  | (i, x) :: r, ps => ∃ u ps', ps = (i, u) :: ps' ∧ V μ w x u ∧ VParts μ w r ps'
theorem fill_V {place : Nat → Option (Nat × Nat)} : ∀ (ps : List (Nat × AV)) (qs : List (Nat × Value)) (cells cs : List AV) (vs : Array Value), VParts μ w ps qs → Vs μ w cells vs.toList → afill place cells ps = some cs →
    ∃ vs', Instr.fill place vs qs = some vs' ∧ Vs μ w cs vs'.toList
  | [], qs, cells, cs, vs, hp, hv, e => by simp only [VParts] at hp; subst hp; simp only [afill, Option.some.injEq] at e; subst e; exact ⟨vs, rfl, hv⟩
  | (i, x) :: r, qs, cells, cs, vs, hp, hv, e => by
    simp only [VParts] at hp
    obtain ⟨u, qs', rfl, hx, hr⟩ := hp
    simp only [afill] at e
    cases hpl : place i with
    | none => rw [hpl] at e; simp at e
    | some os =>
      obtain ⟨off, size⟩ := os
      rw [hpl] at e
      simp only at e
      split at e
      · rename_i hc
        obtain ⟨h0, h1, h2⟩ := hc
        have hxs := cells_V hx h0
        have hxl := hxs.length
        have hvl := hv.length
        simp only [Array.length_toList] at hxl hvl
        have hfold : (u.cells.zipIdx.foldl (fun (cs : Array Value) (p : Value × Nat) => cs.setIfInBounds (off + p.2) p.1) vs).toList = vs.toList.take off ++ u.cells.toList ++ vs.toList.drop (off + u.cells.toList.length) := by
          have := fold_splice off u.cells.toList 0 vs (by simp; omega)
          rw [Nat.add_zero] at this
          rw [← this, ← Array.foldl_toList, Array.toList_zipIdx]
        obtain ⟨vs', hf, hV⟩ := fill_V r qs' _ cs (u.cells.zipIdx.foldl (fun (cs : Array Value) (p : Value × Nat) => cs.setIfInBounds (off + p.2) p.1) vs) hr (by
          rw [hfold]
          have := (((hv.take off).append hxs).append (hv.drop (off + x.cells.length)))
          simp only [Array.length_toList]
          rw [hxl]
          simpa [splice] using this) e
        refine ⟨vs', ?_, hV⟩
        simp only [Instr.fill, hpl]
        rw [if_neg (by simp; omega)]
        exact hf
      · cases e

def abuild (P : Program) (t : TypeId) (parts : List (Nat × AV)) : Option AV :=
  match azero P t, P.underlying t with
  | some z, some (.array _ e) => match P.info? e with
    | some ie => (afill (fun i => some (i * ie.size, ie.size)) z parts).map .agg
    | none => none
  | some z, some (.struct fields) => match fields.toList.mapM (fun f => (P.info? f.type).map fun i => (f.offset, i.size)) with
    | some places => (afill (fun i => places[i]?) z parts).map .agg
    | none => none
  | _, _ => none
theorem azero_info {t : TypeId} {cs : List AV} (e : azero P t = some cs) : ∃ i z, P.info? t = some i ∧ i.zero = some z ∧ ofVs (z.cells.size + 64) z.cells.toList = some cs := by
  unfold azero at e
  cases h1 : P.info? t with
  | none => rw [h1] at e; simp at e
  | some i =>
    rw [h1] at e; simp only [Option.bind_some] at e
    cases h2 : i.zero with
    | none => rw [h2] at e; simp at e
    | some z => rw [h2] at e; exact ⟨i, z, rfl, h2, by simpa using e⟩
theorem build_run {t : TypeId} {ps : List (Nat × AV)} {qs : Array (Nat × Value)} {x : AV} (hp : VParts μ w ps qs.toList) (e : abuild P t ps = some x) :
    ∃ u, (Instr.build t qs).run P w = .ok u w ∧ V μ w x u := by
  unfold abuild at e
  split at e
  · rename_i z n el hz hu
    obtain ⟨i, zz, hi, hiz, hzc⟩ := azero_info hz
    split at e
    · rename_i ie hie
      cases ha : afill (fun i => some (i * ie.size, ie.size)) z ps with
      | none => rw [ha] at e; simp at e
      | some cs =>
        rw [ha] at e; simp at e; subst e
        obtain ⟨vs', hf, hV⟩ := fill_V ps qs.toList z cs zz.cells hp (ofVs_Vs _ _ _ hzc) ha
        exact ⟨.agg vs', run_build w t qs vs' (by simp only [Program.built, hi, hu, hiz, hie]; exact hf), by simp only [V]; exact ⟨_, rfl, hV⟩⟩
    · cases e
  · rename_i z fields hz hu
    obtain ⟨i, zz, hi, hiz, hzc⟩ := azero_info hz
    split at e
    · rename_i places hpl
      cases ha : afill (fun i => places[i]?) z ps with
      | none => rw [ha] at e; simp at e
      | some cs =>
        rw [ha] at e; simp at e; subst e
        obtain ⟨vs', hf, hV⟩ := fill_V ps qs.toList z cs zz.cells hp (ofVs_Vs _ _ _ hzc) ha
        refine ⟨.agg vs', run_build w t qs vs' ?_, by simp only [V]; exact ⟨_, rfl, hV⟩⟩
        simp only [Program.built, hi, hu, hiz, hpl]
        rw [← hf]
        congr 1
        funext k; simp
    · cases e
  · cases e

/-! ### Parts of structs and arrays -/
def afieldAddr (P : Program) (s : TypeId) (f : Nat) (x : AV) : Option AV :=
  match P.underlying s with
  | some (.struct fields) => match fields[f]? with
    | some fd => match P.info? fd.type with
      | some i => if i.size = 0 then none else match x with
        | .ptr o off => some (.ptr o (off + fd.offset))
        | .cptr cs => some (.cptr (cs.drop fd.offset))
        | _ => none
      | none => none
    | none => none
  | _ => none
theorem add_lit (b off n : Nat) : (⟨b, off, none⟩ : Addr).add n = ⟨b, off + n, none⟩ := Addr.add_mid b off n
theorem fieldAddr_run {s : TypeId} {f : Nat} {x y : AV} {u : Value} (hv : V μ w x u) (e : afieldAddr P s f x = some y) : ∃ v, (Instr.fieldAt s u f).run P w = .ok v w ∧ V μ w y v := by
  unfold afieldAddr at e
  split at e
  · rename_i fields hu
    split at e
    · rename_i fd hf
      split at e
      · rename_i i hi
        split at e
        · cases e
        · rename_i h0
          have hrun : ∀ b off, (Instr.fieldAt s (.pointer (some ⟨b, off, none⟩)) f).run P w = .ok (.pointer (some ⟨b, off + fd.offset, none⟩)) w := fun b off => by
            simp only [Instr.fieldAt, Sem.run_bind, run_underlying hu, Result.andThen_ok, hf, Instr.sureAddr, Sem.run_pure, fieldPlace, size_run hi, h0, if_false, add_lit]
          cases x with
          | ptr o off => simp only [Option.some.injEq] at e; subst e; simp only [V] at hv ⊢; obtain ⟨b, hb, rfl⟩ := hv; exact ⟨_, hrun b off, b, hb, rfl⟩
          | cptr cs => simp only [Option.some.injEq] at e; subst e; simp only [V] at hv ⊢; obtain ⟨b, off, rfl, hc⟩ := hv; exact ⟨_, hrun b off, b, off + fd.offset, rfl, hc.drop _⟩
          | _ => cases e
      · cases e
    · cases e
  · cases e
theorem part_run {t : TypeId} {cs : List AV} {us : Array Value} {off : Nat} {x : AV} (hv : Vs μ w cs us.toList) (e : acut P t cs off = some x) : ∃ u, (part t us off).run P w = .ok u w ∧ V μ w x u := by
  unfold acut at e
  split at e
  · rename_i i hr hi
    split at e
    · cases e
      refine ⟨.agg (us.extract off (off + i.size)), ?_, ?_⟩
      · simp only [part, Sem.run_bind, isRow_run hr, Result.andThen_ok, if_true, size_run hi]; rfl
      · simp only [V]
        refine ⟨_, rfl, ?_⟩
        have := (hv.drop off).take i.size
        rw [Array.toList_extract, List.extract_eq_take_drop]
        simpa using this
    · cases e
  · rename_i i hr hi
    obtain ⟨u, hu, hx⟩ := hv.get _ _ e
    refine ⟨u, ?_, hx⟩
    simp only [part, Sem.run_bind, isRow_run hr, Result.andThen_ok]
    have hu' : us[off]? = some u := by simpa using hu
    simp [hu']
  · cases e
def afield (P : Program) (t : TypeId) (f : Nat) (x : AV) : Option AV :=
  match P.underlying t, x with
  | some (.struct fields), .agg cs => match fields[f]? with
    | some fd => acut P fd.type cs fd.offset
    | none => none
  | _, _ => none
theorem field_run {t : TypeId} {f : Nat} {x y : AV} {u : Value} (hv : V μ w x u) (e : afield P t f x = some y) : ∃ v, (Instr.field t u f).run P w = .ok v w ∧ V μ w y v := by
  unfold afield at e
  split at e
  · rename_i fields cs hu
    split at e
    · rename_i fd hf
      simp only [V] at hv
      obtain ⟨us, rfl, hvs⟩ := hv
      obtain ⟨v, hr, hx⟩ := part_run (P := P) hvs e
      exact ⟨v, by simp only [Instr.field, Sem.run_bind, run_underlying hu, Result.andThen_ok, hf, asAgg, Sem.run_pure, hr], hx⟩
    · cases e
  · cases e

def aint : AV → Option (IntKind × Int)
  | .v (.int k n) => some (k, n)
  | _ => none
theorem aint_V {x : AV} {u : Value} {k : IntKind} {n : Int} (hv : V μ w x u) (e : aint x = some (k, n)) : u = .int k n := by
  unfold aint at e
  split at e
  · simp only [Option.some.injEq, Prod.mk.injEq] at e; obtain ⟨rfl, rfl⟩ := e; simp only [V] at hv; exact hv.2
  · cases e
def aindexAddr (P : Program) (t : TypeId) (x ix : AV) : Option AV :=
  match aint ix, P.underlying t with
  | some (_, i), some (.array n e) => match P.info? e with
    | some ie => if 0 ≤ i ∧ i < n then match x with
        | .ptr o off => some (.ptr o (off + i.toNat * ie.size))
        | .cptr cs => some (.cptr (cs.drop (i.toNat * ie.size)))
        | _ => none
      else none
    | none => none
  | some (_, i), some (.slice e) => match P.info? e with
    | some ie => match x with
      | .sl _ n cs => if 0 ≤ i ∧ i < n ∧ i.toNat * ie.size < cs.length then some (.cptr (cs.drop (i.toNat * ie.size))) else none
      | .arr o off n => if 0 ≤ i ∧ i < n then some (.ptr o (off + i.toNat * ie.size)) else none
      | _ => none
    | none => none
  | _, _ => none
theorem sl_open {tok : Tok} {n : Nat} {cs : List AV} {u : Value} (hv : V μ w (.sl tok n cs) u) (hne : cs ≠ []) : ∃ b off c, u = .slice (some ⟨b, off, none⟩) n c ∧ n ≤ c ∧ Cells μ w cs b off := by
  cases tok with
  | nil => simp only [V] at hv; exact absurd hv.2.2 hne
  | none => simp only [V] at hv; obtain ⟨A, c, rfl, hn, hc⟩ := hv; obtain ⟨b, off, rfl, hcs⟩ := hc hne; exact ⟨b, off, c, rfl, hn, hcs⟩
  | own t k s => simp only [V] at hv; obtain ⟨b, off, c, i, rfl, hn, hcs, _⟩ := hv; exact ⟨b, off, c, rfl, hn, hcs⟩
theorem sl_open' {tok : Tok} {n : Nat} {cs : List AV} {u : Value} (hv : V μ w (.sl tok n cs) u) : ∃ A c, u = .slice A n c ∧ n ≤ c := by
  cases tok with
  | nil => simp only [V] at hv; obtain ⟨rfl, rfl, _⟩ := hv; exact ⟨none, 0, rfl, Nat.le_refl _⟩
  | none => simp only [V] at hv; obtain ⟨A, c, rfl, hn, hc⟩ := hv; exact ⟨A, c, rfl, hn⟩
  | own t k s => simp only [V] at hv; obtain ⟨b, off, c, i, rfl, hn, hcs, _⟩ := hv; exact ⟨_, c, rfl, hn⟩
theorem indexAddr_run {t : TypeId} {x ix y : AV} {u v : Value} (hv : V μ w x u) (hi : V μ w ix v) (e : aindexAddr P t x ix = some y) : ∃ z, (Instr.indexAt t u v).run P w = .ok z w ∧ V μ w y z := by
  unfold aindexAddr at e
  split at e
  · rename_i k i n el ha hu
    obtain rfl := aint_V hi ha
    split at e
    · rename_i ie hie
      split at e
      · rename_i hb
        have hrun : ∀ b off, (Instr.indexAt t (.pointer (some ⟨b, off, none⟩)) (.int k i)).run P w = .ok (.pointer (some ⟨b, off + i.toNat * ie.size, none⟩)) w := fun b off => by
          simp only [Instr.indexAt, asIntOf, Sem.run_bind, Sem.run_pure, run_underlying hu, Result.andThen_ok, Instr.sureAddr]
          rw [if_pos hb]
          simp only [Sem.run_bind, size_run hie, Result.andThen_ok, Sem.run_pure, add_lit]
        cases x with
        | ptr o off => simp only [Option.some.injEq] at e; subst e; simp only [V] at hv ⊢; obtain ⟨b, hb, rfl⟩ := hv; exact ⟨_, hrun b off, b, hb, rfl⟩
        | cptr cs => simp only [Option.some.injEq] at e; subst e; simp only [V] at hv ⊢; obtain ⟨b, off, rfl, hc⟩ := hv; exact ⟨_, hrun b off, b, _, rfl, hc.drop _⟩
        | _ => cases e
      · cases e
    · cases e
  · rename_i k i el ha hu
    obtain rfl := aint_V hi ha
    split at e
    · rename_i ie hie
      have hrun : ∀ b off n c, 0 ≤ i → i < (n : Nat) → (Instr.indexAt t (.slice (some ⟨b, off, none⟩) n c) (.int k i)).run P w = .ok (.pointer (some ⟨b, off + i.toNat * ie.size, none⟩)) w := fun b off n c h0 h1 => by
        simp only [Instr.indexAt, asIntOf, Sem.run_bind, Sem.run_pure, run_underlying hu, Result.andThen_ok, Instr.sureAddr]
        rw [if_pos ⟨h0, h1⟩]
        simp only [Sem.run_bind, size_run hie, Result.andThen_ok, Sem.run_pure, add_lit]
      split at e
      · rename_i tok n cs
        split at e
        · rename_i hb
          obtain ⟨h0, h1, h2⟩ := hb
          cases e
          obtain ⟨b, off, c, rfl, hn, hc⟩ := sl_open hv (fun q => by subst q; simp at h2)
          exact ⟨_, hrun b off n c h0 h1, by simp only [V]; exact ⟨b, _, rfl, hc.drop _⟩⟩
        · cases e
      · rename_i o off n
        split at e
        · rename_i hb
          cases e
          simp only [V] at hv
          obtain ⟨b, c, hbo, rfl, hn⟩ := hv
          exact ⟨_, hrun b off n c hb.1 hb.2, by simp only [V]; exact ⟨b, hbo, rfl⟩⟩
        · cases e
      · cases e
    · cases e
  · cases e
def aindex (P : Program) (t : TypeId) (x ix : AV) : Option AV :=
  match aint ix, P.underlying t, x with
  | some (_, i), some (.array n e), .agg cs => match P.info? e with
    | some ie => if 0 ≤ i ∧ i < n then acut P e cs (i.toNat * ie.size) else none
    | none => none
  | some (_, i), some .string, .v (.string s) => if 0 ≤ i then (s[i.toNat]?).map fun b => .v (.int .u8 b.toNat) else none
  | _, _, _ => none
theorem index_run {t : TypeId} {x ix y : AV} {u v : Value} (hv : V μ w x u) (hi : V μ w ix v) (e : aindex P t x ix = some y) : ∃ z, (Instr.index t u v).run P w = .ok z w ∧ V μ w y z := by
  unfold aindex at e
  split at e
  · rename_i k i n el cs ha hu
    obtain rfl := aint_V hi ha
    split at e
    · rename_i ie hie
      split at e
      · rename_i hb
        simp only [V] at hv
        obtain ⟨us, rfl, hvs⟩ := hv
        obtain ⟨z, hr, hx⟩ := part_run (P := P) hvs e
        refine ⟨z, ?_, hx⟩
        simp only [Instr.index, asIntOf, Sem.run_bind, Sem.run_pure, run_underlying hu, Result.andThen_ok]
        rw [if_pos hb]
        simp only [Sem.run_bind, size_run hie, Result.andThen_ok, hr]
      · cases e
    · cases e
  · rename_i k i s ha hu
    obtain rfl := aint_V hi ha
    split at e
    · rename_i h0
      simp only [V] at hv
      obtain ⟨_, rfl⟩ := hv
      cases hs : s[i.toNat]? with
      | none => rw [hs] at e; simp at e
      | some b =>
        rw [hs] at e; simp at e; subst e
        refine ⟨_, ?_, plain_V rfl⟩
        simp only [Instr.index, asIntOf, Sem.run_bind, Sem.run_pure, run_underlying hu, Result.andThen_ok]
        rw [if_pos h0, hs]
        rfl
    · cases e
  · cases e
end
end Go.Proofs.YtkcbhebbjpiibaaDoor.Pg
