/-
  Pg, part 4: structs, slices, maps: the operations on abstract values that have parts.
-/
import Derived.Test.YtkcbhebbjpiibaaDoorPgOps
import Derived.Laws.Append
import Derived.Laws.AppendOwn
import Derived.Laws.MakeOwn
import Derived.Laws.Build
set_option linter.unusedVariables false
set_option linter.unusedSimpArgs false
namespace Go.Proofs.YtkcbhebbjpiibaaDoor.Pg
open Go
section

/-! ### Filling -/
theorem fold_splice (off : Nat) : ∀ (us : List Value) (k : Nat) (cs : Array Value), off + k + us.length ≤ cs.size →
    ((us.zipIdx k).foldl (fun (cs : Array Value) (p : Value × Nat) => cs.setIfInBounds (off + p.2) p.1) cs).toList = cs.toList.take (off + k) ++ us ++ cs.toList.drop (off + k + us.length)
  | [], k, cs, h => by simp
  | u :: us, k, cs, h => by
    simp only [List.length_cons] at h
    simp only [List.zipIdx_cons, List.foldl_cons]
    rw [fold_splice off us (k + 1) _ (by simp; omega)]
    have hk : off + k < cs.toList.length := by simp; omega
    simp only [Array.toList_setIfInBounds, List.length_cons]
    rw [show off + (k + 1) = (off + k) + 1 from by omega, List.drop_set_of_lt (by omega)]
    rw [List.take_add_one, List.getElem?_set_self (by simpa using hk), List.take_set_of_le (Nat.le_refl _)]
    simp only [Option.toList_some, List.append_assoc, List.singleton_append]
    rw [show off + k + 1 + us.length = off + k + (us.length + 1) from by omega]
def afill (place : Nat → Option (Nat × Nat)) (cells : List AV) : List (Nat × AV) → Option (List AV)
  | [] => some cells
  | (i, x) :: rest => match place i with
    | none => none
    | some (off, size) => if x.known = true ∧ x.cells.length = size ∧ off + x.cells.length ≤ cells.length then afill place (splice cells off x.cells) rest else none
section
variable {P : Program} {B0 : Nat} {G : Nat → Option (List AV)} {μ : Mu} {h : AH} {w : World}

def VParts (μ : Mu) (w : World) : List (Nat × AV) → List (Nat × Value) → Prop
  | [], ps => ps = []
  | (i, x) :: r, ps => ∃ u ps', ps = (i, u) :: ps' ∧ V μ w x u ∧ VParts μ w r ps'
theorem fill_V {place : Nat → Option (Nat × Nat)} : ∀ (ps : List (Nat × AV)) (qs : List (Nat × Value)) (cells cs : List AV) (vs : Array Value), VParts μ w ps qs → Vs μ w cells vs.toList → afill place cells ps = some cs →
    ∃ vs', Instr.fill place vs qs = some vs' ∧ Vs μ w cs vs'.toList
  | [], qs, cells, cs, vs, hp, hv, e => by simp only [VParts] at hp; subst hp; simp only [afill, Option.some.injEq] at e; subst e; exact ⟨vs, rfl, hv⟩
  | (i, x) :: r, qs, cells, cs, vs, hp, hv, e => by
    simp only [VParts] at hp
    obtain ⟨u, qs', rfl, hx, hr⟩ := hp
    simp only [afill] at e
    cases hpl : place i with
    | none => rw [hpl] at e; simp at e
    | some os =>
      obtain ⟨off, size⟩ := os
      rw [hpl] at e
      simp only at e
      split at e
      · rename_i hc
        obtain ⟨h0, h1, h2⟩ := hc
        have hxs := cells_V hx h0
        have hxl := hxs.length
        have hvl := hv.length
        simp only [Array.length_toList] at hxl hvl
        have hfold : (u.cells.zipIdx.foldl (fun (cs : Array Value) (p : Value × Nat) => cs.setIfInBounds (off + p.2) p.1) vs).toList = vs.toList.take off ++ u.cells.toList ++ vs.toList.drop (off + u.cells.toList.length) := by
          have := fold_splice off u.cells.toList 0 vs (by simp; omega)
          rw [Nat.add_zero] at this
          rw [← this, ← Array.foldl_toList, Array.toList_zipIdx]
        obtain ⟨vs', hf, hV⟩ := fill_V r qs' _ cs (u.cells.zipIdx.foldl (fun (cs : Array Value) (p : Value × Nat) => cs.setIfInBounds (off + p.2) p.1) vs) hr (by
          rw [hfold]
          have := (((hv.take off).append hxs).append (hv.drop (off + x.cells.length)))
          simp only [Array.length_toList]
          rw [hxl]
          simpa [splice] using this) e
        refine ⟨vs', ?_, hV⟩
        simp only [Instr.fill, hpl]
        rw [if_neg (by simp; omega)]
        exact hf
      · cases e

def abuild (P : Program) (t : TypeId) (parts : List (Nat × AV)) : Option AV :=
  match azero P t, P.underlying t with
  | some z, some (.array _ e) => match P.info? e with
    | some ie => (afill (fun i => some (i * ie.size, ie.size)) z parts).map .agg
    | none => none
  | some z, some (.struct fields) => match fields.toList.mapM (fun f => (P.info? f.type).map fun i => (f.offset, i.size)) with
    | some places => (afill (fun i => places[i]?) z parts).map .agg
    | none => none
  | _, _ => none
theorem azero_info {t : TypeId} {cs : List AV} (e : azero P t = some cs) : ∃ i z, P.info? t = some i ∧ i.zero = some z ∧ ofVs (z.cells.size + 64) z.cells.toList = some cs := by
  unfold azero at e
  cases h1 : P.info? t with
  | none => rw [h1] at e; simp at e
  | some i =>
    rw [h1] at e; simp only [Option.bind_some] at e
    cases h2 : i.zero with
    | none => rw [h2] at e; simp at e
    | some z => rw [h2] at e; exact ⟨i, z, rfl, h2, by simpa using e⟩
theorem build_run {t : TypeId} {ps : List (Nat × AV)} {qs : Array (Nat × Value)} {x : AV} (hp : VParts μ w ps qs.toList) (e : abuild P t ps = some x) :
    ∃ u, (Instr.build t qs).run P w = .ok u w ∧ V μ w x u := by
  unfold abuild at e
  split at e
  · rename_i z n el hz hu
    obtain ⟨i, zz, hi, hiz, hzc⟩ := azero_info hz
    split at e
    · rename_i ie hie
      cases ha : afill (fun i => some (i * ie.size, ie.size)) z ps with
      | none => rw [ha] at e; simp at e
      | some cs =>
        rw [ha] at e; simp at e; subst e
        obtain ⟨vs', hf, hV⟩ := fill_V ps qs.toList z cs zz.cells hp (ofVs_Vs _ _ _ hzc) ha
        exact ⟨.agg vs', run_build w t qs vs' (by simp only [Program.built, hi, hu, hiz, hie]; exact hf), by simp only [V]; exact ⟨_, rfl, hV⟩⟩
    · cases e
  · rename_i z fields hz hu
    obtain ⟨i, zz, hi, hiz, hzc⟩ := azero_info hz
    split at e
    · rename_i places hpl
      cases ha : afill (fun i => places[i]?) z ps with
      | none => rw [ha] at e; simp at e
      | some cs =>
        rw [ha] at e; simp at e; subst e
        obtain ⟨vs', hf, hV⟩ := fill_V ps qs.toList z cs zz.cells hp (ofVs_Vs _ _ _ hzc) ha
        refine ⟨.agg vs', run_build w t qs vs' ?_, by simp only [V]; exact ⟨_, rfl, hV⟩⟩
        simp only [Program.built, hi, hu, hiz, hpl]
        rw [← hf]
        congr 1
        funext k; simp
    · cases e
  · cases e

/-! ### Parts of structs and arrays -/
def afieldAddr (P : Program) (s : TypeId) (f : Nat) (x : AV) : Option AV :=
  match P.underlying s with
  | some (.struct fields) => match fields[f]? with
    | some fd => match P.info? fd.type with
      | some i => if i.size = 0 then none else match x with
        | .ptr o off => some (.ptr o (off + fd.offset))
        | .cptr cs => some (.cptr (cs.drop fd.offset))
        | _ => none
      | none => none
    | none => none
  | _ => none
theorem add_lit (b off n : Nat) : (⟨b, off, none⟩ : Addr).add n = ⟨b, off + n, none⟩ := Addr.add_mid b off n
theorem fieldAddr_run {s : TypeId} {f : Nat} {x y : AV} {u : Value} (hv : V μ w x u) (e : afieldAddr P s f x = some y) : ∃ v, (Instr.fieldAt s u f).run P w = .ok v w ∧ V μ w y v := by
  unfold afieldAddr at e
  split at e
  · rename_i fields hu
    split at e
    · rename_i fd hf
      split at e
      · rename_i i hi
        split at e
        · cases e
        · rename_i h0
          have hrun : ∀ b off, (Instr.fieldAt s (.pointer (some ⟨b, off, none⟩)) f).run P w = .ok (.pointer (some ⟨b, off + fd.offset, none⟩)) w := fun b off => by
            simp only [Instr.fieldAt, Sem.run_bind, run_underlying hu, Result.andThen_ok, hf, Instr.sureAddr, Sem.run_pure, fieldPlace, size_run hi, h0, if_false, add_lit]
          cases x with
          | ptr o off => simp only [Option.some.injEq] at e; subst e; simp only [V] at hv ⊢; obtain ⟨b, hb, rfl⟩ := hv; exact ⟨_, hrun b off, b, hb, rfl⟩
          | cptr cs => simp only [Option.some.injEq] at e; subst e; simp only [V] at hv ⊢; obtain ⟨b, off, rfl, hc⟩ := hv; exact ⟨_, hrun b off, b, off + fd.offset, rfl, hc.drop _⟩
          | _ => cases e
      · cases e
    · cases e
  · cases e
theorem part_run {t : TypeId} {cs : List AV} {us : Array Value} {off : Nat} {x : AV} (hv : Vs μ w cs us.toList) (e : acut P t cs off = some x) : ∃ u, (part t us off).run P w = .ok u w ∧ V μ w x u := by
  unfold acut at e
  split at e
  · rename_i i hr hi
    split at e
    · cases e
      refine ⟨.agg (us.extract off (off + i.size)), ?_, ?_⟩
      · simp only [part, Sem.run_bind, isRow_run hr, Result.andThen_ok, if_true, size_run hi]; rfl
      · simp only [V]
        refine ⟨_, rfl, ?_⟩
        have := (hv.drop off).take i.size
        rw [Array.toList_extract, List.extract_eq_take_drop]
        simpa using this
    · cases e
  · rename_i i hr hi
    obtain ⟨u, hu, hx⟩ := hv.get _ _ e
    refine ⟨u, ?_, hx⟩
    simp only [part, Sem.run_bind, isRow_run hr, Result.andThen_ok]
    have hu' : us[off]? = some u := by simpa using hu
    simp [hu']
  · cases e
def afield (P : Program) (t : TypeId) (f : Nat) (x : AV) : Option AV :=
  match P.underlying t, x with
  | some (.struct fields), .agg cs => match fields[f]? with
    | some fd => acut P fd.type cs fd.offset
    | none => none
  | _, _ => none
theorem field_run {t : TypeId} {f : Nat} {x y : AV} {u : Value} (hv : V μ w x u) (e : afield P t f x = some y) : ∃ v, (Instr.field t u f).run P w = .ok v w ∧ V μ w y v := by
  unfold afield at e
  split at e
  · rename_i fields cs hu
    split at e
    · rename_i fd hf
      simp only [V] at hv
      obtain ⟨us, rfl, hvs⟩ := hv
      obtain ⟨v, hr, hx⟩ := part_run (P := P) hvs e
      exact ⟨v, by simp only [Instr.field, Sem.run_bind, run_underlying hu, Result.andThen_ok, hf, asAgg, Sem.run_pure, hr], hx⟩
    · cases e
  · cases e

def aint : AV → Option (IntKind × Int)
  | .v (.int k n) => some (k, n)
  | _ => none
theorem aint_V {x : AV} {u : Value} {k : IntKind} {n : Int} (hv : V μ w x u) (e : aint x = some (k, n)) : u = .int k n := by
  unfold aint at e
  split at e
  · simp only [Option.some.injEq, Prod.mk.injEq] at e; obtain ⟨rfl, rfl⟩ := e; simp only [V] at hv; exact hv.2
  · cases e
def aindexAddr (P : Program) (t : TypeId) (x ix : AV) : Option AV :=
  match aint ix, P.underlying t with
  | some (_, i), some (.array n e) => match P.info? e with
    | some ie => if 0 ≤ i ∧ i < n then match x with
        | .ptr o off => some (.ptr o (off + i.toNat * ie.size))
        | .cptr cs => some (.cptr (cs.drop (i.toNat * ie.size)))
        | _ => none
      else none
    | none => none
  | some (_, i), some (.slice e) => match P.info? e with
    | some ie => match x with
      | .sl _ n cs => if 0 ≤ i ∧ i < n ∧ i.toNat * ie.size < cs.length then some (.cptr (cs.drop (i.toNat * ie.size))) else none
      | .arr o off n => if 0 ≤ i ∧ i < n then some (.ptr o (off + i.toNat * ie.size)) else none
      | _ => none
    | none => none
  | _, _ => none
theorem sl_open {tok : Tok} {n : Nat} {cs : List AV} {u : Value} (hv : V μ w (.sl tok n cs) u) (hne : cs ≠ []) : ∃ b off c, u = .slice (some ⟨b, off, none⟩) n c ∧ n ≤ c ∧ Cells μ w cs b off := by
  cases tok with
  | nil => simp only [V] at hv; exact absurd hv.2.2 hne
  | none => simp only [V] at hv; obtain ⟨A, c, rfl, hn, hc⟩ := hv; obtain ⟨b, off, rfl, hcs⟩ := hc hne; exact ⟨b, off, c, rfl, hn, hcs⟩
  | own t k s => simp only [V] at hv; obtain ⟨b, off, c, i, rfl, hn, hcs, _⟩ := hv; exact ⟨b, off, c, rfl, hn, hcs⟩
theorem sl_open' {tok : Tok} {n : Nat} {cs : List AV} {u : Value} (hv : V μ w (.sl tok n cs) u) : ∃ A c, u = .slice A n c ∧ n ≤ c := by
  cases tok with
  | nil => simp only [V] at hv; obtain ⟨rfl, rfl, _⟩ := hv; exact ⟨none, 0, rfl, Nat.le_refl _⟩
  | none => simp only [V] at hv; obtain ⟨A, c, rfl, hn, hc⟩ := hv; exact ⟨A, c, rfl, hn⟩
  | own t k s => simp only [V] at hv; obtain ⟨b, off, c, i, rfl, hn, hcs, _⟩ := hv; exact ⟨_, c, rfl, hn⟩
theorem indexAddr_run {t : TypeId} {x ix y : AV} {u v : Value} (hv : V μ w x u) (hi : V μ w ix v) (e : aindexAddr P t x ix = some y) : ∃ z, (Instr.indexAt t u v).run P w = .ok z w ∧ V μ w y z := by
  unfold aindexAddr at e
  split at e
  · rename_i k i n el ha hu
    obtain rfl := aint_V hi ha
    split at e
    · rename_i ie hie
      split at e
      · rename_i hb
        have hrun : ∀ b off, (Instr.indexAt t (.pointer (some ⟨b, off, none⟩)) (.int k i)).run P w = .ok (.pointer (some ⟨b, off + i.toNat * ie.size, none⟩)) w := fun b off => by
          simp only [Instr.indexAt, asIntOf, Sem.run_bind, Sem.run_pure, run_underlying hu, Result.andThen_ok, Instr.sureAddr]
          rw [if_pos hb]
          simp only [Sem.run_bind, size_run hie, Result.andThen_ok, Sem.run_pure, add_lit]
        cases x with
        | ptr o off => simp only [Option.some.injEq] at e; subst e; simp only [V] at hv ⊢; obtain ⟨b, hb, rfl⟩ := hv; exact ⟨_, hrun b off, b, hb, rfl⟩
        | cptr cs => simp only [Option.some.injEq] at e; subst e; simp only [V] at hv ⊢; obtain ⟨b, off, rfl, hc⟩ := hv; exact ⟨_, hrun b off, b, _, rfl, hc.drop _⟩
        | _ => cases e
      · cases e
    · cases e
  · rename_i k i el ha hu
    obtain rfl := aint_V hi ha
    split at e
    · rename_i ie hie
      have hrun : ∀ b off n c, 0 ≤ i → i < (n : Nat) → (Instr.indexAt t (.slice (some ⟨b, off, none⟩) n c) (.int k i)).run P w = .ok (.pointer (some ⟨b, off + i.toNat * ie.size, none⟩)) w := fun b off n c h0 h1 => by
        simp only [Instr.indexAt, asIntOf, Sem.run_bind, Sem.run_pure, run_underlying hu, Result.andThen_ok, Instr.sureAddr]
        rw [if_pos ⟨h0, h1⟩]
        simp only [Sem.run_bind, size_run hie, Result.andThen_ok, Sem.run_pure, add_lit]
      split at e
      · rename_i tok n cs
        split at e
        · rename_i hb
          obtain ⟨h0, h1, h2⟩ := hb
          cases e
          obtain ⟨b, off, c, rfl, hn, hc⟩ := sl_open hv (fun q => by subst q; simp at h2)
          exact ⟨_, hrun b off n c h0 h1, by simp only [V]; exact ⟨b, _, rfl, hc.drop _⟩⟩
        · cases e
      · rename_i o off n
        split at e
        · rename_i hb
          cases e
          simp only [V] at hv
          obtain ⟨b, c, hbo, rfl, hn⟩ := hv
          exact ⟨_, hrun b off n c hb.1 hb.2, by simp only [V]; exact ⟨b, hbo, rfl⟩⟩
        · cases e
      · cases e
    · cases e
  · cases e
def aindex (P : Program) (t : TypeId) (x ix : AV) : Option AV :=
  match aint ix, P.underlying t, x with
  | some (_, i), some (.array n e), .agg cs => match P.info? e with
    | some ie => if 0 ≤ i ∧ i < n then acut P e cs (i.toNat * ie.size) else none
    | none => none
  | some (_, i), some .string, .v (.string s) => if 0 ≤ i then (s[i.toNat]?).map fun b => .v (.int .u8 b.toNat) else none
  | _, _, _ => none
theorem index_run {t : TypeId} {x ix y : AV} {u v : Value} (hv : V μ w x u) (hi : V μ w ix v) (e : aindex P t x ix = some y) : ∃ z, (Instr.index t u v).run P w = .ok z w ∧ V μ w y z := by
  unfold aindex at e
  split at e
  · rename_i k i n el cs ha hu
    obtain rfl := aint_V hi ha
    split at e
    · rename_i ie hie
      split at e
      · rename_i hb
        simp only [V] at hv
        obtain ⟨us, rfl, hvs⟩ := hv
        obtain ⟨z, hr, hx⟩ := part_run (P := P) hvs e
        refine ⟨z, ?_, hx⟩
        simp only [Instr.index, asIntOf, Sem.run_bind, Sem.run_pure, run_underlying hu, Result.andThen_ok]
        rw [if_pos hb]
        simp only [Sem.run_bind, size_run hie, Result.andThen_ok, hr]
      · cases e
    · cases e
  · rename_i k i s ha hu
    obtain rfl := aint_V hi ha
    split at e
    · rename_i h0
      simp only [V] at hv
      obtain ⟨_, rfl⟩ := hv
      cases hs : s[i.toNat]? with
      | none => rw [hs] at e; simp at e
      | some b =>
        rw [hs] at e; simp at e; subst e
        refine ⟨_, ?_, plain_V rfl⟩
        simp only [Instr.index, asIntOf, Sem.run_bind, Sem.run_pure, run_underlying hu, Result.andThen_ok]
        rw [if_pos h0, hs]
        rfl
    · cases e
  · cases e
end
end

/-! ### Pg, part 5: slices that are cut, made, grown; maps. -/
section
section
variable {P : Program} {B0 : Nat} {G : Nat → Option (List AV)} {μ : Mu} {h : AH} {w : World}

/-! ### Cuts -/
def abound (hi : Nat) : Option AV → Nat → Option Nat
  | none, d => some d
  | some x, _ => match aint x with
    | some (_, i) => if 0 ≤ i ∧ i ≤ hi then some i.toNat else none
    | none => none
theorem sliceBound_run {k : IntKind} {i : Int} {y : Nat} {code : BoundsCode} (h0 : 0 ≤ i) (h1 : i ≤ y) : (Instr.sliceBound (.int k i) y code).run P w = .ok i.toNat w := by
  simp only [Instr.sliceBound, asIntOf, Sem.run_bind, Sem.run_pure, Result.andThen_ok]
  rw [if_pos ⟨h0, h1⟩]; rfl
def VOpt (μ : Mu) (w : World) : Option AV → Option Value → Prop
  | none, u => u = none
  | some x, u => ∃ v, u = some v ∧ V μ w x v
theorem sliceBounds_run {isSl : Bool} {len cap : Nat} {lo hi : Option AV} {ulo uhi : Option Value} {l h1 : Nat} (hlo : VOpt μ w lo ulo) (hhi : VOpt μ w hi uhi) (hlc : len ≤ cap)
    (eh : abound len hi len = some h1) (el : abound h1 lo 0 = some l) :
    (Instr.sliceBounds isSl len cap ulo uhi none).run P w = .ok (l, h1, cap) w ∧ l ≤ h1 ∧ h1 ≤ len := by
  have S : ∀ {x : AV} {u : Option Value} {b d n : Nat}, VOpt μ w (some x) u → abound b (some x) d = some n → ∃ k i, u = some (.int k i) ∧ 0 ≤ i ∧ i ≤ b ∧ n = i.toNat := by
    intro x u b d n hx e
    simp only [VOpt] at hx
    obtain ⟨v, rfl, hv⟩ := hx
    simp only [abound] at e
    split at e
    · rename_i k i ha
      obtain rfl := aint_V hv ha
      split at e
      · rename_i hb; cases e; exact ⟨k, i, rfl, hb.1, hb.2, rfl⟩
      · cases e
    · cases e
  cases hi with
  | none =>
    simp only [VOpt] at hhi; subst hhi; simp only [abound, Option.some.injEq] at eh; subst eh
    cases lo with
    | none =>
      simp only [VOpt] at hlo; subst hlo; simp only [abound, Option.some.injEq] at el; subst el
      exact ⟨by simp only [Instr.sliceBounds, Sem.run_bind, Sem.run_pure, Result.andThen_ok], Nat.zero_le _, Nat.le_refl _⟩
    | some x =>
      obtain ⟨k, i, rfl, h0, h2, rfl⟩ := S hlo el
      exact ⟨by simp only [Instr.sliceBounds, Sem.run_bind, Sem.run_pure, Result.andThen_ok, sliceBound_run h0 h2], by omega, Nat.le_refl _⟩
  | some y =>
    obtain ⟨k', i', rfl, h0', h2', rfl⟩ := S hhi eh
    have h3' : i' ≤ cap := by omega
    cases lo with
    | none =>
      simp only [VOpt] at hlo; subst hlo; simp only [abound, Option.some.injEq] at el; subst el
      exact ⟨by simp only [Instr.sliceBounds, Sem.run_bind, Sem.run_pure, Result.andThen_ok, sliceBound_run h0' h3'], Nat.zero_le _, by omega⟩
    | some x =>
      obtain ⟨k, i, rfl, h0, h2, rfl⟩ := S hlo el
      exact ⟨by simp only [Instr.sliceBounds, Sem.run_bind, Sem.run_pure, Result.andThen_ok, sliceBound_run h0' h3', sliceBound_run h0 h2], by omega, by omega⟩
def aslice (P : Program) (t : TypeId) (x : AV) (lo hi : Option AV) : Option AV :=
  match P.underlying t, x with
  | some (.slice e), .sl tok n cs => match abound n hi n, P.info? e with
    | some h1, some ie => match abound h1 lo 0 with
      | some l => if cs.length = n * ie.size then match tok with
          | .nil => some (.sl .nil 0 [])
          | .none => some (.sl .none (h1 - l) ((cs.drop (l * ie.size)).take ((h1 - l) * ie.size)))
          | .own t k s => if h1 = n ∧ l < n ∧ s = ie.size then some (.sl (.own t (k + l) s) (n - l) (cs.drop (l * ie.size))) else some (.sl .none (h1 - l) ((cs.drop (l * ie.size)).take ((h1 - l) * ie.size)))
        else none
      | none => none
    | _, _ => none
  | some (.slice e), .arr o off n => match abound n hi n, P.info? e with
    | some h1, some ie => match abound h1 lo 0 with
      | some l => if l < h1 then some (.arr o (off + l * ie.size) (h1 - l)) else some (.sl .none 0 [])
      | none => none
    | _, _ => none
  | some (.array n e), .ptr o off => match abound n hi n, P.info? e with
    | some h1, some ie => match abound h1 lo 0 with
      | some l => if l < h1 then some (.arr o (off + l * ie.size) (h1 - l)) else some (.sl .none 0 [])
      | none => none
    | _, _ => none
  | some .string, .v (.string s) => match abound s.size hi s.size with
    | some h1 => match abound h1 lo 0 with
      | some l => some (.v (.string (s.extract l h1)))
      | none => none
    | none => none
  | _, _ => none
theorem slice_run {t : TypeId} {x y : AV} {u : Value} {lo hi : Option AV} {ulo uhi : Option Value} (hv : V μ w x u) (hlo : VOpt μ w lo ulo) (hhi : VOpt μ w hi uhi) (e : aslice P t x lo hi = some y) :
    ∃ v, (Instr.sliceAt t u ulo uhi none).run P w = .ok v w ∧ V μ w y v := by
  unfold aslice at e
  split at e
  · rename_i el tok n cs hu
    split at e
    · rename_i h1 ie eh hie
      split at e
      · rename_i l hl
        split at e
        · rename_i hlen
          have hrun : ∀ A c, n ≤ c → (Instr.sliceAt t (.slice A n c) ulo uhi none).run P w = .ok (.slice (if c = l then A else A.map (·.add (l * ie.size))) (h1 - l) (c - l)) w ∧ l ≤ h1 ∧ h1 ≤ n := fun A c hc => by
            have hb := sliceBounds_run (P := P) (isSl := true) (cap := c) hlo hhi hc eh hl
            refine ⟨?_, hb.2⟩
            simp only [Instr.sliceAt, Instr.slice, Sem.run_bind, run_underlying hu, Result.andThen_ok, hb.1, size_run hie, Sem.run_pure]
          split at e
          · cases e
            simp only [V] at hv
            obtain ⟨rfl, rfl, rfl⟩ := hv
            obtain ⟨hr, h2, h3⟩ := hrun none 0 (Nat.le_refl _)
            obtain rfl : h1 = 0 := by omega
            obtain rfl : l = 0 := by omega
            exact ⟨_, hr, by simp [V]⟩
          · cases e
            simp only [V] at hv
            obtain ⟨A, c, rfl, hn, hc⟩ := hv
            obtain ⟨hr, h2, h3⟩ := hrun A c hn
            refine ⟨_, hr, ?_⟩
            simp only [V]
            refine ⟨_, _, rfl, by omega, fun hne => ?_⟩
            have hlt : l < h1 := by
              rcases Nat.lt_or_ge l h1 with q | q
              · exact q
              · rw [show h1 - l = 0 from by omega] at hne; simp at hne
            obtain ⟨b, off, rfl, hcs⟩ := hc (fun q => by subst q; simp at hne)
            exact ⟨b, off + l * ie.size, by rw [if_neg (by omega)]; simp [add_lit], (hcs.drop _).take _⟩
          · rename_i tk k s
            simp only [V] at hv
            obtain ⟨b, off, c, i, rfl, hn, hcs, ht, hsz, hF, hf⟩ := hv
            obtain ⟨hr, h2, h3⟩ := hrun (some ⟨b, off, none⟩) c hn
            split at e
            · rename_i hc
              obtain ⟨rfl, hlt, rfl⟩ := hc
              cases e
              refine ⟨_, hr, ?_⟩
              simp only [V]
              refine ⟨b, off + l * ie.size, c - l, i, by rw [if_neg (by omega)]; simp [add_lit], by omega, hcs.drop _, ht, hsz, by omega, fun q => ?_⟩
              obtain ⟨q1, q2, q3⟩ := hf (by omega)
              refine ⟨q1, ?_, by omega⟩
              rw [← q2, hsz, Nat.sub_mul]
              have : l * ie.size ≤ h1 * ie.size := Nat.mul_le_mul_right _ (by omega)
              omega
            · cases e
              refine ⟨_, hr, ?_⟩
              simp only [V]
              refine ⟨_, _, rfl, by omega, fun hne => ?_⟩
              have hlt : l < h1 := by
                rcases Nat.lt_or_ge l h1 with q | q
                · exact q
                · rw [show h1 - l = 0 from by omega] at hne; simp at hne
              exact ⟨b, off + l * ie.size, by rw [if_neg (by omega)]; simp [add_lit], (hcs.drop _).take _⟩
        · cases e
      · cases e
    · cases e
  · rename_i el o off n hu
    split at e
    · rename_i h1 ie eh hie
      split at e
      · rename_i l hl
        simp only [V] at hv
        obtain ⟨b, c, hbo, rfl, hn⟩ := hv
        have hb := sliceBounds_run (P := P) (isSl := true) (cap := c) hlo hhi hn eh hl
        have hr : (Instr.sliceAt t (.slice (some ⟨b, off, none⟩) n c) ulo uhi none).run P w = .ok (.slice (if c = l then some ⟨b, off, none⟩ else (some (⟨b, off, none⟩ : Addr)).map (·.add (l * ie.size))) (h1 - l) (c - l)) w := by
          simp only [Instr.sliceAt, Instr.slice, Sem.run_bind, run_underlying hu, Result.andThen_ok, hb.1, size_run hie, Sem.run_pure]
        split at e
        · rename_i hlt
          cases e
          refine ⟨_, hr, ?_⟩
          simp only [V]
          exact ⟨b, c - l, hbo, by rw [if_neg (by omega)]; simp [add_lit], by omega⟩
        · cases e
          refine ⟨_, hr, ?_⟩
          simp only [V]
          exact ⟨_, _, by rw [show h1 - l = 0 from by omega], Nat.zero_le _, fun q => absurd rfl q⟩
      · cases e
    · cases e
  · rename_i n el o off hu
    split at e
    · rename_i h1 ie eh hie
      split at e
      · rename_i l hl
        simp only [V] at hv
        obtain ⟨b, hbo, rfl⟩ := hv
        have hb := sliceBounds_run (P := P) (isSl := false) (cap := n) hlo hhi (Nat.le_refl _) eh hl
        have hr : (Instr.sliceAt t (.pointer (some ⟨b, off, none⟩)) ulo uhi none).run P w = .ok (.slice (some (if n = l then ⟨b, off, none⟩ else (⟨b, off, none⟩ : Addr).add (l * ie.size))) (h1 - l) (n - l)) w := by
          simp only [Instr.sliceAt, Instr.sureAddr, Sem.run_bind, run_underlying hu, Result.andThen_ok, hb.1, size_run hie, Sem.run_pure]
        split at e
        · rename_i hlt
          cases e
          refine ⟨_, hr, ?_⟩
          simp only [V]
          exact ⟨b, n - l, hbo, by rw [if_neg (by omega)]; simp [add_lit], by omega⟩
        · cases e
          refine ⟨_, hr, ?_⟩
          simp only [V]
          exact ⟨_, _, by rw [show h1 - l = 0 from by omega], Nat.zero_le _, fun q => absurd rfl q⟩
      · cases e
    · cases e
  · rename_i s hu
    split at e
    · rename_i h1 eh
      split at e
      · rename_i l hl
        cases e
        simp only [V] at hv
        obtain ⟨_, rfl⟩ := hv
        have hb := sliceBounds_run (P := P) (isSl := false) (cap := s.size) hlo hhi (Nat.le_refl _) eh hl
        refine ⟨_, ?_, plain_V rfl⟩
        simp only [Instr.sliceAt, Instr.slice, Sem.run_bind, run_underlying hu, Result.andThen_ok]
        simp only [Option.isSome_none, Bool.false_eq_true, if_false, Sem.run_bind, Sem.run_pure, Result.andThen_ok, hb.1]
      · cases e
    · cases e
  · cases e

/-! ### New rows -/
def acycle (zs : List AV) (n : Nat) : List AV := (List.range n).map fun k => zs.getD (k % zs.length) default
theorem acycle_V {n : Nat} {zs : List AV} {z : Array Value} (hv : Vs μ w zs z.toList) (hz : n = 0 ∨ zs ≠ []) : Vs μ w (acycle zs n) (madeCells z n).toList := by
  refine Vs.mk (by simp [acycle, madeCells]) fun k x u hx hu => ?_
  simp only [acycle, madeCells, List.getElem?_map, Array.toList_map, Array.toList_range] at hx hu
  by_cases hk : k < n
  · rw [List.getElem?_range hk] at hx hu
    simp only [Option.map_some, Option.some.injEq] at hx hu
    subst hx; subst hu
    have hlen := hv.length
    simp only [Array.length_toList] at hlen
    have hpos : 0 < zs.length := by
      rcases hz with q | q
      · omega
      · exact List.length_pos_iff.2 q
    have hlt : k % zs.length < zs.length := Nat.mod_lt _ hpos
    obtain ⟨u, hu, hx⟩ := hv.get (k % zs.length) _ (List.getElem?_eq_getElem hlt)
    rw [List.getD_eq_getElem?_getD, List.getElem?_eq_getElem hlt]
    rw [hlen]
    have hu' : z[k % zs.length]? = some u := by simpa using hu
    rw [getElem!_def, hu']
    exact hx
  · rw [List.getElem?_eq_none (by simpa using hk)] at hx; cases hx
def amake (P : Program) (t : TypeId) (l c : AV) : Option (Ev × (Nat → AV)) :=
  match aint l, aint c, P.underlying t with
  | some (_, l), some (_, c), some (.slice e) => match P.info? e, azero P e with
    | some i, some z =>
      if 0 ≤ l ∧ l ≤ c ∧ (i.bytes : Int) * c ≤ 281474976710656 ∧ c ≤ 9223372036854775807 ∧ z.length = i.size ∧ 0 < i.size then
        if l = c then some (.obj (.cells e (acycle z (l.toNat * i.size))), fun id => .arr id 0 l.toNat)
        else if l = 0 then some (.row 0 i.size [], fun t => .sl (.own t 0 i.size) 0 []) else none
      else none
    | _, _ => none
  | _, _, _ => none
theorem make_ev {t : TypeId} {l c : AV} {ul uc : Value} {ev : Ev} {f : Nat → AV} (hl : V μ w l ul) (hc : V μ w c uc) (e : amake P t l c = some (ev, f)) : EvRes P μ w ev f (Instr.makeSlice t ul uc) := by
  unfold amake at e
  split at e
  · rename_i kl l kc c el h1 h2 hu
    obtain rfl := aint_V hl h1
    obtain rfl := aint_V hc h2
    split at e
    · rename_i i z hi hz
      split at e
      · rename_i hcond
        obtain ⟨c1, c2, c3, c4, c5, c6⟩ := hcond
        obtain ⟨i', zz, hi', hiz, hzc⟩ := azero_info hz
        rw [hi] at hi'; cases hi'
        have hzV : Vs μ w z zz.cells.toList := ofVs_Vs _ _ _ hzc
        have hrun := run_make w t el i zz hu hi hiz kl kc l c c1 c2 c3 c4
        split at e
        · rename_i hlc
          subst hlc
          cases e
          refine ⟨_, _, _, hrun, ⟨rfl, rfl, rfl, rfl⟩, fun μ' w' hle hk hb => ⟨_, hb, Vs.mono hle hk _ _ (acycle_V hzV (.inr fun q => by subst q; simp at c5; omega))⟩, fun μ' w' id hid => ?_⟩
          simp only [V]
          exact ⟨w.heap.size, l.toNat, hid, rfl, Nat.le_refl _⟩
        · split at e
          · rename_i hl0
            cases e
            subst hl0
            exact ⟨_, _, _, hrun, ⟨rfl, rfl, rfl, rfl⟩, _, el, c.toNat, rfl, by simp, by simp [size_madeCells], by simp [Vs], rfl, by simp⟩
          · cases e
      · cases e
    · cases e
  · cases e

def abuildSlice (P : Program) (t : TypeId) (len : Nat) (parts : List (Nat × AV)) : Option (Ev × (Nat → AV)) :=
  match P.underlying t with
  | some (.slice e) => match P.info? e, azero P e with
    | some i, some z =>
      if len * i.size ≤ 16777216 ∧ z.length = i.size ∧ 0 < i.size then
        match afill (fun k => some (k * i.size, i.size)) (acycle z (len * i.size)) parts with
        | some cs => if cs.length = len * i.size then some (.row len i.size cs, fun t => .sl (.own t 0 i.size) len cs) else none
        | none => none
      else none
    | _, _ => none
  | _ => none
theorem buildSlice_ev {t : TypeId} {len : Nat} {ps : List (Nat × AV)} {qs : Array (Nat × Value)} {ev : Ev} {f : Nat → AV} (hp : VParts μ w ps qs.toList) (e : abuildSlice P t len ps = some (ev, f)) :
    EvRes P μ w ev f (Instr.buildSlice t len qs) := by
  unfold abuildSlice at e
  split at e
  · rename_i el hu
    split at e
    · rename_i i z hi hz
      split at e
      · rename_i hcond
        obtain ⟨c1, c2, c3⟩ := hcond
        obtain ⟨i', zz, hi', hiz, hzc⟩ := azero_info hz
        rw [hi] at hi'; cases hi'
        have hzV : Vs μ w z zz.cells.toList := ofVs_Vs _ _ _ hzc
        split at e
        · rename_i cs hf
          split at e
          · rename_i hlen
            cases e
            have hbase := acycle_V (n := len * i.size) hzV (.inr fun q => by subst q; simp at c2; omega)
            obtain ⟨vs', hfill, hV⟩ := fill_V ps qs.toList _ cs (madeCells zz.cells (len * i.size)) hp hbase hf
            have hvl := hV.length
            simp only [Array.length_toList] at hvl
            have hrun : (Instr.buildSlice t len qs).run P w = .ok (.slice (some ⟨w.heap.size, 0, none⟩) len len) (w.alloc (.cells vs' el)) := by
              by_cases h0 : len * i.size = 0
              · rw [h0] at hfill
                have hm : madeCells zz.cells 0 = #[] := by simp [madeCells]
                rw [hm] at hfill
                simp [Instr.buildSlice, run_underlying hu, sizeOf, typeInfo, hi, h0, show Array.range 0 = #[] from rfl, hfill, newRow]
              · unfold madeCells at hfill
                simp [Instr.buildSlice, run_underlying hu, sizeOf, typeInfo, zeroValue, hi, hiz, h0, show ¬ (16777216 < len * i.size) by omega, hfill, newRow]
            exact ⟨_, _, _, hrun, ⟨rfl, rfl, rfl, rfl⟩, vs', el, 0, rfl, hlen, by rw [hvl, hlen]; simp, by rw [← hlen, ← hvl, ← Array.length_toList, List.take_length]; exact hV, rfl, by simp⟩
          · cases e
        · cases e
      · cases e
    · cases e
  · cases e
end
end
end Go.Proofs.YtkcbhebbjpiibaaDoor.Pg
