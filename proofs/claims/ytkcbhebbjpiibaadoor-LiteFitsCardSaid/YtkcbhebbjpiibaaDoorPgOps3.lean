/-
  Pg, part 5: slices that are cut, made, grown; maps.
-/
import Derived.Test.YtkcbhebbjpiibaaDoorPgOps2
set_option linter.unusedVariables false
set_option linter.unusedSimpArgs false
namespace Go.Proofs.YtkcbhebbjpiibaaDoor.Pg
open Go
section
variable {P : Program} {B0 : Nat} {G : Nat → Option (List AV)} {μ : Mu} {h : AH} {w : World}

/-! ### Cuts -/
def abound (hi : Nat) : Option AV → Nat → Option Nat
  | none, d => some d
  | some x, _ => match aint x with
    | some (_, i) => if 0 ≤ i ∧ i ≤ hi then some i.toNat else none
    | none => none
theorem sliceBound_run {k : IntKind} {i : Int} {y : Nat} {code : BoundsCode} (h0 : 0 ≤ i) (h1 : i ≤ y) : (Instr.sliceBound (.int k i) y code).run P w = .ok i.toNat w := by
  simp only [Instr.sliceBound, asIntOf, Sem.run_bind, Sem.run_pure, Result.andThen_ok]
  rw [if_pos ⟨h0, h1⟩]; rfl
def VOpt (μ : Mu) (w : World) : Option AV → Option Value → Prop
  | none, u => u = none
  | some x, u => ∃ v, u = some v ∧ V μ w x v
theorem sliceBounds_run {isSl : Bool} {len cap : Nat} {lo hi : Option AV} {ulo uhi : Option Value} {l h1 : Nat} (hlo : VOpt μ w lo ulo) (hhi : VOpt μ w hi uhi) (hlc : len ≤ cap)
    (eh : abound len hi len = some h1) (el : abound h1 lo 0 = some l) :
    (Instr.sliceBounds isSl len cap ulo uhi none).run P w = .ok (l, h1, cap) w ∧ l ≤ h1 ∧ h1 ≤ len := by
  have S : ∀ {x : AV} {u : Option Value} {b d n : Nat}, VOpt μ w (some x) u → abound b (some x) d = some n → ∃ k i, u = some (.int k i) ∧ 0 ≤ i ∧ i ≤ b ∧ n = i.toNat := by
    intro x u b d n hx e
    simp only [VOpt] at hx
    obtain ⟨v, rfl, hv⟩ := hx
    simp only [abound] at e
    split at e
    · rename_i k i ha
      obtain rfl := aint_V hv ha
      split at e
      · rename_i hb; cases e; exact ⟨k, i, rfl, hb.1, hb.2, rfl⟩
      · cases e
    · cases e
  cases hi with
  | none =>
    simp only [VOpt] at hhi; subst hhi; simp only [abound, Option.some.injEq] at eh; subst eh
    cases lo with
    | none =>
      simp only [VOpt] at hlo; subst hlo; simp only [abound, Option.some.injEq] at el; subst el
      exact ⟨by simp only [Instr.sliceBounds, Sem.run_bind, Sem.run_pure, Result.andThen_ok], Nat.zero_le _, Nat.le_refl _⟩
    | some x =>
      obtain ⟨k, i, rfl, h0, h2, rfl⟩ := S hlo el
      exact ⟨by simp only [Instr.sliceBounds, Sem.run_bind, Sem.run_pure, Result.andThen_ok, sliceBound_run h0 h2], by omega, Nat.le_refl _⟩
  | some y =>
    obtain ⟨k', i', rfl, h0', h2', rfl⟩ := S hhi eh
    have h3' : i' ≤ cap := by omega
    cases lo with
    | none =>
      simp only [VOpt] at hlo; subst hlo; simp only [abound, Option.some.injEq] at el; subst el
      exact ⟨by simp only [Instr.sliceBounds, Sem.run_bind, Sem.run_pure, Result.andThen_ok, sliceBound_run h0' h3'], Nat.zero_le _, by omega⟩
    | some x =>
      obtain ⟨k, i, rfl, h0, h2, rfl⟩ := S hlo el
      exact ⟨by simp only [Instr.sliceBounds, Sem.run_bind, Sem.run_pure, Result.andThen_ok, sliceBound_run h0' h3', sliceBound_run h0 h2], by omega, by omega⟩
def aslice (P : Program) (t : TypeId) (x : AV) (lo hi : Option AV) : Option AV :=
  match P.underlying t, x with
  | some (.slice e), .sl tok n cs => match abound n hi n, P.info? e with
    | some h1, some ie => match abound h1 lo 0 with
      | some l => if cs.length = n * ie.size then match tok with
          | .nil => some (.sl .nil 0 [])
          | .none => some (.sl .none (h1 - l) ((cs.drop (l * ie.size)).take ((h1 - l) * ie.size)))
          | .own t k s => if h1 = n ∧ l < n ∧ s = ie.size then some (.sl (.own t (k + l) s) (n - l) (cs.drop (l * ie.size))) else some (.sl .none (h1 - l) ((cs.drop (l * ie.size)).take ((h1 - l) * ie.size)))
        else none
      | none => none
    | _, _ => none
  | some (.slice e), .arr o off n => match abound n hi n, P.info? e with
    | some h1, some ie => match abound h1 lo 0 with
      | some l => if l < h1 then some (.arr o (off + l * ie.size) (h1 - l)) else some (.sl .none 0 [])
      | none => none
    | _, _ => none
  | some (.array n e), .ptr o off => match abound n hi n, P.info? e with
    | some h1, some ie => match abound h1 lo 0 with
      | some l => if l < h1 then some (.arr o (off + l * ie.size) (h1 - l)) else some (.sl .none 0 [])
      | none => none
    | _, _ => none
  | some .string, .v (.string s) => match abound s.size hi s.size with
    | some h1 => match abound h1 lo 0 with
      | some l => some (.v (.string (s.extract l h1)))
      | none => none
    | none => none
  | _, _ => none
theorem slice_run {t : TypeId} {x y : AV} {u : Value} {lo hi : Option AV} {ulo uhi : Option Value} (hv : V μ w x u) (hlo : VOpt μ w lo ulo) (hhi : VOpt μ w hi uhi) (e : aslice P t x lo hi = some y) :
    ∃ v, (Instr.sliceAt t u ulo uhi none).run P w = .ok v w ∧ V μ w y v := by
  unfold aslice at e
  split at e
  · rename_i el tok n cs hu
    split at e
    · rename_i h1 ie eh hie
      split at e
      · rename_i l hl
        split at e
        · rename_i hlen
          have hrun : ∀ A c, n ≤ c → (Instr.sliceAt t (.slice A n c) ulo uhi none).run P w = .ok (.slice (if c = l then A else A.map (·.add (l * ie.size))) (h1 - l) (c - l)) w ∧ l ≤ h1 ∧ h1 ≤ n := fun A c hc => by
            have hb := sliceBounds_run (P := P) (isSl := true) (cap := c) hlo hhi hc eh hl
            refine ⟨?_, hb.2⟩
            simp only [Instr.sliceAt, Instr.slice, Sem.run_bind, run_underlying hu, Result.andThen_ok, hb.1, size_run hie, Sem.run_pure]
          split at e
          · cases e
            simp only [V] at hv
            obtain ⟨rfl, rfl, rfl⟩ := hv
            obtain ⟨hr, h2, h3⟩ := hrun none 0 (Nat.le_refl _)
            obtain rfl : h1 = 0 := by omega
            obtain rfl : l = 0 := by omega
            exact ⟨_, hr, by simp [V]⟩
          · cases e
            simp only [V] at hv
            obtain ⟨A, c, rfl, hn, hc⟩ := hv
            obtain ⟨hr, h2, h3⟩ := hrun A c hn
            refine ⟨_, hr, ?_⟩
            simp only [V]
            refine ⟨_, _, rfl, by omega, fun hne => ?_⟩
            have hlt : l < h1 := by
              rcases Nat.lt_or_ge l h1 with q | q
              · exact q
              · rw [show h1 - l = 0 from by omega] at hne; simp at hne
            obtain ⟨b, off, rfl, hcs⟩ := hc (fun q => by subst q; simp at hne)
            exact ⟨b, off + l * ie.size, by rw [if_neg (by omega)]; simp [add_lit], (hcs.drop _).take _⟩
          · rename_i tk k s
            simp only [V] at hv
            obtain ⟨b, off, c, i, rfl, hn, hcs, ht, hsz, hF, hf⟩ := hv
            obtain ⟨hr, h2, h3⟩ := hrun (some ⟨b, off, none⟩) c hn
            split at e
            · rename_i hc
              obtain ⟨rfl, hlt, rfl⟩ := hc
              cases e
              refine ⟨_, hr, ?_⟩
              simp only [V]
              refine ⟨b, off + l * ie.size, c - l, i, by rw [if_neg (by omega)]; simp [add_lit], by omega, hcs.drop _, ht, hsz, by omega, fun q => ?_⟩
              obtain ⟨q1, q2, q3⟩ := hf (by omega)
              refine ⟨q1, ?_, by omega⟩
              rw [← q2, hsz, Nat.sub_mul]
              have : l * ie.size ≤ h1 * ie.size := Nat.mul_le_mul_right _ (by omega)
              omega
            · cases e
              refine ⟨_, hr, ?_⟩
              simp only [V]
              refine ⟨_, _, rfl, by omega, fun hne => ?_⟩
              have hlt : l < h1 := by
                rcases Nat.lt_or_ge l h1 with q | q
                · exact q
                · rw [show h1 - l = 0 from by omega] at hne; simp at hne
              exact ⟨b, off + l * ie.size, by rw [if_neg (by omega)]; simp [add_lit], (hcs.drop _).take _⟩
        · cases e
      · cases e
    · cases e
  · rename_i el o off n hu
    split at e
    · rename_i h1 ie eh hie
      split at e
      · rename_i l hl
        simp only [V] at hv
        obtain ⟨b, c, hbo, rfl, hn⟩ := hv
        have hb := sliceBounds_run (P := P) (isSl := true) (cap := c) hlo hhi hn eh hl
        have hr : (Instr.sliceAt t (.slice (some ⟨b, off, none⟩) n c) ulo uhi none).run P w = .ok (.slice (if c = l then some ⟨b, off, none⟩ else (some (⟨b, off, none⟩ : Addr)).map (·.add (l * ie.size))) (h1 - l) (c - l)) w := by
          simp only [Instr.sliceAt, Instr.slice, Sem.run_bind, run_underlying hu, Result.andThen_ok, hb.1, size_run hie, Sem.run_pure]
        split at e
        · rename_i hlt
          cases e
          refine ⟨_, hr, ?_⟩
          simp only [V]
          exact ⟨b, c - l, hbo, by rw [if_neg (by omega)]; simp [add_lit], by omega⟩
        · cases e
          refine ⟨_, hr, ?_⟩
          simp only [V]
          exact ⟨_, _, by rw [show h1 - l = 0 from by omega], Nat.zero_le _, fun q => absurd rfl q⟩
      · cases e
    · cases e
  · rename_i n el o off hu
    split at e
    · rename_i h1 ie eh hie
      split at e
      · rename_i l hl
        simp only [V] at hv
        obtain ⟨b, hbo, rfl⟩ := hv
        have hb := sliceBounds_run (P := P) (isSl := false) (cap := n) hlo hhi (Nat.le_refl _) eh hl
        have hr : (Instr.sliceAt t (.pointer (some ⟨b, off, none⟩)) ulo uhi none).run P w = .ok (.slice (some (if n = l then ⟨b, off, none⟩ else (⟨b, off, none⟩ : Addr).add (l * ie.size))) (h1 - l) (n - l)) w := by
          simp only [Instr.sliceAt, Instr.sureAddr, Sem.run_bind, run_underlying hu, Result.andThen_ok, hb.1, size_run hie, Sem.run_pure]
        split at e
        · rename_i hlt
          cases e
          refine ⟨_, hr, ?_⟩
          simp only [V]
          exact ⟨b, n - l, hbo, by rw [if_neg (by omega)]; simp [add_lit], by omega⟩
        · cases e
          refine ⟨_, hr, ?_⟩
          simp only [V]
          exact ⟨_, _, by rw [show h1 - l = 0 from by omega], Nat.zero_le _, fun q => absurd rfl q⟩
      · cases e
    · cases e
  · rename_i s hu
    split at e
    · rename_i h1 eh
      split at e
      · rename_i l hl
        cases e
        simp only [V] at hv
        obtain ⟨_, rfl⟩ := hv
        have hb := sliceBounds_run (P := P) (isSl := false) (cap := s.size) hlo hhi (Nat.le_refl _) eh hl
        refine ⟨_, ?_, plain_V rfl⟩
        simp only [Instr.sliceAt, Instr.slice, Sem.run_bind, run_underlying hu, Result.andThen_ok]
        simp only [Option.isSome_none, Bool.false_eq_true, if_false, Sem.run_bind, Sem.run_pure, Result.andThen_ok, hb.1]
      · cases e
    · cases e
  · cases e

/-! ### New rows -/
def acycle (zs : List AV) (n : Nat) : List AV := (List.range n).map fun k => zs.getD (k % zs.length) default
theorem acycle_V {n : Nat} {zs : List AV} {z : Array Value} (hv : Vs μ w zs z.toList) (hz : n = 0 ∨ zs ≠ []) : Vs μ w (acycle zs n) (madeCells z n).toList := by
  refine Vs.mk (by simp [acycle, madeCells]) fun k x u hx hu => ?_
  simp only [acycle, madeCells, List.getElem?_map, Array.toList_map, Array.toList_range] at hx hu
  by_cases hk : k < n
  · rw [List.getElem?_range hk] at hx hu
    simp only [Option.map_some, Option.some.injEq] at hx hu
    subst hx; subst hu
    have hlen := hv.length
    simp only [Array.length_toList] at hlen
    have hpos : 0 < zs.length := by
      rcases hz with q | q
      · omega
      · exact List.length_pos_iff.2 q
    have hlt : k % zs.length < zs.length := Nat.mod_lt _ hpos
    obtain ⟨u, hu, hx⟩ := hv.get (k % zs.length) _ (List.getElem?_eq_getElem hlt)
    rw [List.getD_eq_getElem?_getD, List.getElem?_eq_getElem hlt]
    rw [hlen]
    have hu' : z[k % zs.length]? = some u := by simpa using hu
    rw [getElem!_def, hu']
    exact hx
  · rw [List.getElem?_eq_none (by simpa using hk)] at hx; cases hx
def amake (P : Program) (t : TypeId) (l c : AV) : Option (Ev × (Nat → AV)) :=
  match aint l, aint c, P.underlying t with
  | some (_, l), some (_, c), some (.slice e) => match P.info? e, azero P e with
    | some i, some z =>
      if 0 ≤ l ∧ l ≤ c ∧ (i.bytes : Int) * c ≤ 281474976710656 ∧ c ≤ 9223372036854775807 ∧ z.length = i.size ∧ 0 < i.size then
        if l = c then some (.obj (.cells e (acycle z (l.toNat * i.size))), fun id => .arr id 0 l.toNat)
        else if l = 0 then some (.row 0 i.size [], fun t => .sl (.own t 0 i.size) 0 []) else none
      else none
    | _, _ => none
  | _, _, _ => none
theorem make_ev {t : TypeId} {l c : AV} {ul uc : Value} {ev : Ev} {f : Nat → AV} (hl : V μ w l ul) (hc : V μ w c uc) (e : amake P t l c = some (ev, f)) : EvRes P μ w ev f (Instr.makeSlice t ul uc) := by
  unfold amake at e
  split at e
  · rename_i kl l kc c el h1 h2 hu
    obtain rfl := aint_V hl h1
    obtain rfl := aint_V hc h2
    split at e
    · rename_i i z hi hz
      split at e
      · rename_i hcond
        obtain ⟨c1, c2, c3, c4, c5, c6⟩ := hcond
        obtain ⟨i', zz, hi', hiz, hzc⟩ := azero_info hz
        rw [hi] at hi'; cases hi'
        have hzV : Vs μ w z zz.cells.toList := ofVs_Vs _ _ _ hzc
        have hrun := run_make w t el i zz hu hi hiz kl kc l c c1 c2 c3 c4
        split at e
        · rename_i hlc
          subst hlc
          cases e
          refine ⟨_, _, _, hrun, ⟨rfl, rfl, rfl, rfl⟩, fun μ' w' hle hk hb => ⟨_, hb, Vs.mono hle hk _ _ (acycle_V hzV (.inr fun q => by subst q; simp at c5; omega))⟩, fun μ' w' id hid => ?_⟩
          simp only [V]
          exact ⟨w.heap.size, l.toNat, hid, rfl, Nat.le_refl _⟩
        · split at e
          · rename_i hl0
            cases e
            subst hl0
            exact ⟨_, _, _, hrun, ⟨rfl, rfl, rfl, rfl⟩, _, el, c.toNat, rfl, by simp, by simp [size_madeCells], by simp [Vs], rfl, by simp⟩
          · cases e
      · cases e
    · cases e
  · cases e

def abuildSlice (P : Program) (t : TypeId) (len : Nat) (parts : List (Nat × AV)) : Option (Ev × (Nat → AV)) :=
  match P.underlying t with
  | some (.slice e) => match P.info? e, azero P e with
    | some i, some z =>
      if len * i.size ≤ 16777216 ∧ z.length = i.size ∧ 0 < i.size then
        match afill (fun k => some (k * i.size, i.size)) (acycle z (len * i.size)) parts with
        | some cs => if cs.length = len * i.size then some (.row len i.size cs, fun t => .sl (.own t 0 i.size) len cs) else none
        | none => none
      else none
    | _, _ => none
  | _ => none
theorem buildSlice_ev {t : TypeId} {len : Nat} {ps : List (Nat × AV)} {qs : Array (Nat × Value)} {ev : Ev} {f : Nat → AV} (hp : VParts μ w ps qs.toList) (e : abuildSlice P t len ps = some (ev, f)) :
    EvRes P μ w ev f (Instr.buildSlice t len qs) := by
  unfold abuildSlice at e
  split at e
  · rename_i el hu
    split at e
    · rename_i i z hi hz
      split at e
      · rename_i hcond
        obtain ⟨c1, c2, c3⟩ := hcond
        obtain ⟨i', zz, hi', hiz, hzc⟩ := azero_info hz
        rw [hi] at hi'; cases hi'
        have hzV : Vs μ w z zz.cells.toList := ofVs_Vs _ _ _ hzc
        split at e
        · rename_i cs hf
          split at e
          · rename_i hlen
            cases e
            have hbase := acycle_V (n := len * i.size) hzV (.inr fun q => by subst q; simp at c2; omega)
            obtain ⟨vs', hfill, hV⟩ := fill_V ps qs.toList _ cs (madeCells zz.cells (len * i.size)) hp hbase hf
            have hvl := hV.length
            simp only [Array.length_toList] at hvl
            have hrun : (Instr.buildSlice t len qs).run P w = .ok (.slice (some ⟨w.heap.size, 0, none⟩) len len) (w.alloc (.cells vs' el)) := by
              by_cases h0 : len * i.size = 0
              · rw [h0] at hfill
                have hm : madeCells zz.cells 0 = #[] := by simp [madeCells]
                rw [hm] at hfill
                simp [Instr.buildSlice, run_underlying hu, sizeOf, typeInfo, hi, h0, show Array.range 0 = #[] from rfl, hfill, newRow]
              · unfold madeCells at hfill
                simp [Instr.buildSlice, run_underlying hu, sizeOf, typeInfo, zeroValue, hi, hiz, h0, show ¬ (16777216 < len * i.size) by omega, hfill, newRow]
            exact ⟨_, _, _, hrun, ⟨rfl, rfl, rfl, rfl⟩, vs', el, 0, rfl, hlen, by rw [hvl, hlen]; simp, by rw [← hlen, ← hvl, ← Array.length_toList, List.take_length]; exact hV, rfl, by simp⟩
          · cases e
        · cases e
      · cases e
    · cases e
  · cases e
end
end Go.Proofs.YtkcbhebbjpiibaaDoor.Pg
