/-
  Pg, part 7c: a region whose order is open: whatever order is drawn, what comes of it is what comes of the text's order.
-/
import Derived.Test.YtcjlpklgnknpgaaGreatDoorPgStep
set_option linter.unusedVariables false
set_option linter.unusedSimpArgs false
set_option linter.unusedSectionVars false
namespace Go.Proofs.YtcjlpklgnknpgaaGreatDoor.Pg
open Go
section
variable {P : Program} {B0 : Nat} {G : Nat → Option (List AV)} {call : FuncId → List AV → AH → Option (AOut × AH)} {ops : Array Oper} {N : Nat} {F : Nat → Fr} {H : Nat → AH} {X : Nat → AV} {EX : Nat → Bool} {es : List Ent}
theorem lop_touch {fr : Fr} {C1 C2 : Nat → Option AObj} {o : Oper} (hk : kindOf o = .l) (h : ∀ ob, ltouch G fr o = some ob → C1 ob = C2 ob) : lop P G fr C1 o = lop P G fr C2 o := by
 unfold lop
 split
 ·rename_i t a ho
  split
  ·rename_i p hp
   cases p with
   | ptr ob off => simp only [aload]; rw [h ob (by simp [ltouch, ho, hp])]
   | _ => rfl
  ·rfl
 ·rename_i t m k ok ho
  split
  ·rename_i m' k' hm hk
   have : mapOf C1 m' = mapOf C2 m' := by
    cases m' with
    | mp ob => simp only [mapOf]; rw [h ob (by simp [ltouch, ho, hm])]
    | v x => cases x <;> try rfl
             rename_i q; cases q <;> rfl
    | _ => rfl
   simp only [alookup, this]
  ·rfl
 ·rename_i c ho
  split
  ·split
   ·rename_i y t hargs htys
    split
    ·rename_i y' hy
     have : mapOf C1 y' = mapOf C2 y' := by
      cases y' with
      | mp ob => simp only [mapOf]; rw [h ob (by simp [ltouch, ho, hargs, hy])]
      | v x => cases x <;> try rfl
               rename_i q; cases q <;> rfl
      | _ => rfl
     simp only [alen, this]
    ·rfl
   ·rfl
  ·rfl
 ·rfl
theorem ltouch_mapped {μ : Mu} {w : World} {fr : Fr} {a : Act} {o : Oper} (hk : kindOf o = .l) (f : OpsV G μ w fr a o) {ob : Nat} (h : ltouch G fr o = some ob) : ∃ b, μ.obj ob = some b := by
 unfold ltouch at h
 split at h
 ·rename_i t x ho
  split at h
  ·rename_i ob' off hx
   cases h
   have := f x (by simp [ho, Op.operands]) _ hx
   simp only [V] at this
   obtain ⟨b, hb, _⟩ := this
   exact ⟨b, hb⟩
  ·cases h
 ·rename_i t m k ok ho
  split at h
  ·rename_i ob' hx
   cases h
   have := f m (by simp [ho, Op.operands]) _ hx
   simp only [V] at this
   obtain ⟨b, hb, _⟩ := this
   exact ⟨b, hb⟩
  ·cases h
 ·rename_i c ho
  split at h
  ·rename_i x hargs
   split at h
   ·rename_i ob' hx
    cases h
    have := f x (by rw [ho]; simp only [Op.operands, Call.operands, Array.mem_append]; exact .inr (by rw [← Array.mem_toList_iff, hargs]; simp)) _ hx
    simp only [V] at this
    obtain ⟨b, hb, _⟩ := this
    exact ⟨b, hb⟩
   ·cases h
  ·cases h
 ·cases h
structure Reg (P : Program) (B0 : Nat) (G : Nat → Option (List AV)) (ops : Array Oper) (N : Nat) (F : Nat → Fr) (H : Nat → AH) (X : Nat → AV) (EX : Nat → Bool) : Prop where
 le : N ≤ ops.size
 st : Static ops
 wants : ∀ i o, i < N → ops[i]? = some o → awanted ops (F i) o = some (EX i)
 step : ∀ i o, i < N → ops[i]? = some o → EX i = true → ∃ call, CallOk P B0 G call ∧ astep P G call (F i) (H i) o = some (.ret (X i), H (i + 1))
 skip : ∀ i, i < N → EX i = false → X i = .v undef ∧ H (i + 1) = H i
 put : ∀ i o, i < N → ops[i]? = some o → (F i).put o.dst (X i) = some (F (i + 1))
 next : ∀ i, i < N → (H i).next ≤ (H (i + 1)).next ∧ (H i).tnext ≤ (H (i + 1)).tnext
 solo : ∀ i o ob, i < N → ops[i]? = some o → kindOf o = .l → ltouch G (F i) o = some ob → ob < (H i).next
 read : ∀ i j o ob, i < N → ops[i]? = some o → j < N → kindAt ops j = .e → EX i = true → EX j = true → (anc ops i).testBit j = false → (anc ops j).testBit i = false → kindOf o = .l → ltouch G (F i) o = some ob → (H j).get ob = (H (j + 1)).get ob
 made : ∀ i j o, i < N → ops[i]? = some o → j < N → kindAt ops j = .e → EX i = true → EX j = true → (anc ops i).testBit j = false → (anc ops j).testBit i = false → kindOf o = .a →
  ((H (i + 1)).next ≠ (H i).next → (H j).get (H i).next = (H (j + 1)).get (H i).next) ∧ ((H (i + 1)).tnext ≠ (H i).tnext → (H j).tok (H i).tnext = (H (j + 1)).tok (H i).tnext)
section
variable (rg : Reg P B0 G ops N F H X EX)
include rg
theorem next_le : ∀ {i j : Nat}, i ≤ j → j ≤ N → (H i).next ≤ (H j).next ∧ (H i).tnext ≤ (H j).tnext := by
 intro i j hij
 induction hij with
 | refl => intro _; exact ⟨Nat.le_refl _, Nat.le_refl _⟩
 | @step m hij ih =>
  intro hj
  have h1 := ih (by omega)
  have h2 := rg.next m (by omega)
  exact ⟨Nat.le_trans h1.1 h2.1, Nat.le_trans h1.2 h2.2⟩
theorem stay1 {j : Nat} (hj : j < N) (hk : kindAt ops j ≠ .e ∨ EX j = false) : (∀ ob, ob < (H j).next → (H (j + 1)).get ob = (H j).get ob) ∧ (∀ t, t < (H j).tnext → (H (j + 1)).tok t = (H j).tok t) := by
 have hjo : j < ops.size := Nat.lt_of_lt_of_le hj rg.le
 have ho : ops[j]? = some ops[j] := Array.getElem?_eq_getElem hjo
 cases hx : EX j with
 | false => rw [(rg.skip j hj hx).2]; exact ⟨fun _ _ => rfl, fun _ _ => rfl⟩
 | true =>
  have hk' : kindOf ops[j] ≠ .e := by
   rcases hk with hk | hk
   ·simpa [kindAt, ho] using hk
   ·rw [hx] at hk; cases hk
  obtain ⟨call, _, hs⟩ := rg.step j _ hj ho hx
  unfold astep at hs
  split at hs
  ·cases h1 : pop P G (F j) ops[j] with
   | none => rw [h1] at hs; simp at hs
   | some x => rw [h1] at hs; simp only [Option.map_some, Option.some.injEq, Prod.mk.injEq] at hs; rw [← hs.2]; exact ⟨fun _ _ => rfl, fun _ _ => rfl⟩
  ·cases h1 : lop P G (F j) (H j).get ops[j] with
   | none => rw [h1] at hs; simp at hs
   | some x => rw [h1] at hs; simp only [Option.map_some, Option.some.injEq, Prod.mk.injEq] at hs; rw [← hs.2]; exact ⟨fun _ _ => rfl, fun _ _ => rfl⟩
  ·cases h1 : mkop P G (F j) ops[j] with
   | none => rw [h1] at hs; simp at hs
   | some p =>
    obtain ⟨ev, g⟩ := p
    rw [h1] at hs; simp only [Option.map_some, Option.some.injEq, Prod.mk.injEq] at hs; rw [← hs.2]
    cases ev with
    | obj x => exact ⟨fun ob hob => by simp only [mkput]; rw [AH.get_push, if_neg (by omega)], fun _ _ => rfl⟩
    | row n sz cs => exact ⟨fun _ _ => rfl, fun t ht => by simp only [mkput]; rw [AH.tok_pushTok, if_neg (by omega)]⟩
  ·rename_i hke; exact absurd hke hk'
theorem stay {m1 m2 : Nat} (h12 : m1 ≤ m2) (h2 : m2 ≤ N) {ob : Nat} (hob : ob < (H m1).next) (he : ∀ j, m1 ≤ j → j < m2 → kindAt ops j = .e → EX j = true → (H j).get ob = (H (j + 1)).get ob) : (H m2).get ob = (H m1).get ob := by
 induction h12 with
 | refl => rfl
 | @step m hm ih =>
  have ih' := ih (by omega) (fun j h1 h2 => he j h1 (by omega))
  rw [← ih']
  have hob' : ob < (H m).next := Nat.lt_of_lt_of_le hob (next_le rg hm (by omega)).1
  by_cases hk : kindAt ops m = .e
  ·cases hx : EX m with
   | true => exact (he m hm (by omega) hk hx).symm
   | false => exact (stay1 rg (by omega) (.inr hx)).1 ob hob'
  ·exact (stay1 rg (by omega) (.inl hk)).1 ob hob'
theorem stayT {m1 m2 : Nat} (h12 : m1 ≤ m2) (h2 : m2 ≤ N) {t : Nat} (hob : t < (H m1).tnext) (he : ∀ j, m1 ≤ j → j < m2 → kindAt ops j = .e → EX j = true → (H j).tok t = (H (j + 1)).tok t) : (H m2).tok t = (H m1).tok t := by
 induction h12 with
 | refl => rfl
 | @step m hm ih =>
  have ih' := ih (by omega) (fun j h1 h2 => he j h1 (by omega))
  rw [← ih']
  have hob' : t < (H m).tnext := Nat.lt_of_lt_of_le hob (next_le rg hm (by omega)).2
  by_cases hk : kindAt ops m = .e
  ·cases hx : EX m with
   | true => exact (he m hm (by omega) hk hx).symm
   | false => exact (stay1 rg (by omega) (.inr hx)).2 t hob'
  ·exact (stay1 rg (by omega) (.inl hk)).2 t hob'
theorem frame_at : ∀ {i : Nat}, i ≤ N → (F i).n = (F 0).n ∧ ∀ d, (∀ j, j < i → dstOf ops j = some d → (F i).get d = X j) ∧ ((∀ j, j < i → dstOf ops j ≠ some d) → (F i).get d = (F 0).get d)
 | 0, _ => ⟨rfl, fun d => ⟨fun j hj => by omega, fun _ => rfl⟩⟩
 | i + 1, hi => by
  obtain ⟨ih1, ih2⟩ := frame_at (i := i) (by omega)
  have hle := rg.le
  have ho : ops[i]? = some ops[i] := Array.getElem?_eq_getElem (by omega)
  have hp := rg.put i _ (by omega) ho
  cases hd : ops[i].dst with
  | none =>
   rw [hd] at hp
   simp only [Fr.put, Option.some.injEq] at hp
   rw [← hp]
   have hdi : dstOf ops i = none := by simp [dstOf, ho, hd]
   refine ⟨ih1, fun d => ⟨fun j hj hjd => ?_, fun hn => (ih2 d).2 fun j hj => hn j (by omega)⟩⟩
   rcases Nat.lt_or_ge j i with q | q
   ·exact (ih2 d).1 j q hjd
   ·obtain rfl : j = i := by omega
    rw [hdi] at hjd; cases hjd
  | some d0 =>
   rw [hd] at hp
   simp only [Fr.put] at hp
   split at hp
   ·simp only [Option.some.injEq] at hp
    rw [← hp]
    have hdi : dstOf ops i = some d0 := by simp [dstOf, ho, hd]
    refine ⟨ih1, fun d => ⟨fun j hj hjd => ?_, fun hn => ?_⟩⟩
    ·rw [Fr.get_set]
     rcases Nat.lt_or_ge j i with q | q
     ·have hne : d ≠ d0 := fun e => by subst e; exact absurd (rg.st.dst j i d (by omega) (by omega) hjd hdi) (by omega)
      rw [if_neg hne]; exact (ih2 d).1 j q hjd
     ·obtain rfl : j = i := by omega
      rw [hdi] at hjd; cases hjd; rw [if_pos rfl]
    ·rw [Fr.get_set, if_neg (fun e => by subst e; exact hn i (by omega) hdi)]
     exact (ih2 d).2 fun j hj => hn j (by omega)
   ·cases hp
end
def NewO (ops : Array Oper) (N : Nat) (H : Nat → AH) (EX : Nat → Bool) (i o : Nat) : Prop := i < N ∧ kindAt ops i = .a ∧ EX i = true ∧ (H i).next = o ∧ (H (i + 1)).next = o + 1
def NewT (ops : Array Oper) (N : Nat) (H : Nat → AH) (EX : Nat → Bool) (i t : Nat) : Prop := i < N ∧ kindAt ops i = .a ∧ EX i = true ∧ (H i).tnext = t ∧ (H (i + 1)).tnext = t + 1
structure Inv (Δ : List Deferred) (B0 : Nat) (G : Nat → Option (List AV)) (ops : Array Oper) (N : Nat) (F : Nat → Fr) (H : Nat → AH) (X : Nat → AV) (EX : Nat → Bool) (μ0 : Mu) (w0 : World) (S : Nat → Prop) (k : Nat) (μ : Mu) (C : Nat → Option AObj) (D : Nat → Option Nat) (fr : Fr) (a : Act) (w : World) : Prop where
 sc : SC μ0 w0 μ w
 ido : ∀ o b, μ.obj o = some b → μ0.obj o = some b ∨ (H 0).next ≤ o
 idt : ∀ t i, μ.tok t = some i → (∃ j, μ0.tok t = some j) ∨ (H 0).tnext ≤ t
 rc : RC B0 G μ C D w
 frel : FrRel Δ μ w fr a
 frn : fr.n = (F 0).n
 did : ∀ j d, j < ops.size → dstOf ops j = some d → S j → fr.get d = X j
 not : ∀ d, (∀ j, j < ops.size → dstOf ops j = some d → ¬ S j) → fr.get d = (F 0).get d
 sub : ∀ j, j < ops.size → S j → j < N
 kle : k ≤ N
 ke : ∀ j, j < N → kindAt ops j = .e → (S j ↔ j < k)
 objs : ∀ o b, μ.obj o = some b → (o < (H k).next ∧ C o = (H k).get o) ∨ ((H k).next ≤ o ∧ ∃ i, S i ∧ NewO ops N H EX i o ∧ C o = (H (i + 1)).get o)
 late : ∀ o b, μ.obj o = some b → ∀ i, NewO ops N H EX i o → S i
 toks : ∀ t q, μ.tok t = some q → (t < (H k).tnext ∧ D t = (H k).tok t) ∨ ((H k).tnext ≤ t ∧ ∃ i, S i ∧ NewT ops N H EX i t ∧ D t = (H (i + 1)).tok t)
 lateT : ∀ t q, μ.tok t = some q → ∀ i, NewT ops N H EX i t → S i
section
variable (rg : Reg P B0 G ops N F H X EX) {Δ : List Deferred} {μ0 : Mu} {w0 : World} {S : Nat → Prop} {k : Nat} {μ : Mu} {C : Nat → Option AObj} {D : Nat → Option Nat} {fr : Fr} {a : Act} {w : World}
 (inv : Inv Δ B0 G ops N F H X EX μ0 w0 S k μ C D fr a w) (hS : ∀ i o, S i → ops[i]? = some o → ∀ e ∈ o.after.toList, Region.binds .any e = true → S e.on)
 {i : Nat} {o : Oper} (ho : ops[i]? = some o) (hn : ¬ S i) (he : ∀ e ∈ o.after.toList, Region.binds .any e = true → S e.on) (hN : i ≤ N)
include rg inv hS ho hn he hN
theorem before_S {j : Nat} (h : (anc ops i).testBit j = true) : S j := by
 have _ := rg; have _ := inv; have _ := hn
 exact anc_closed' hS ho he h
theorem after_S {j : Nat} (hj : j < ops.size) (hs : S j) : (anc ops j).testBit i = false := by
 have _ := rg; have _ := inv; have _ := ho; have _ := he
 cases h : (anc ops j).testBit i with
 | false => rfl
 | true => exact absurd (anc_closed hS ops.size j hj (Nat.le_refl _) hs i h) hn
theorem slot_eq {t : Tmp} (ht : t ∈ o.looksAt ops) : fr.get t = (F i).get t := by
 have hi : i < ops.size := (Array.getElem?_eq_some_iff.1 ho).1
 obtain ⟨_, hfr⟩ := frame_at rg (i := i) (by omega)
 by_cases hw : ∃ j, j < ops.size ∧ dstOf ops j = some t
 ·obtain ⟨j, hj, hd⟩ := hw
  rcases rg.st.looks i j o t hj ho hd ht with h | h
  ·have hs := before_S rg inv hS ho hn he hN h
   rw [inv.did j t hj hd hs, (hfr t).1 j (rg.st.below i j hi h) hd]
  ·have hlt := rg.st.below j i hj h
   have huniq : ∀ j', j' < ops.size → dstOf ops j' = some t → j' = j := fun j' hj' hd' => rg.st.dst j' j t hj' hj hd' hd
   rw [inv.not t fun j' hj' hd' hs => by
    obtain rfl := huniq j' hj' hd'
    have := after_S rg inv hS ho hn he hN hj hs
    rw [this] at h; cases h]
   rw [(hfr t).2 fun j' hj' hd' => by have := huniq j' (by omega) hd'; omega]
 ·rw [inv.not t fun j hj hd => absurd ⟨j, hj, hd⟩ hw, (hfr t).2 fun j hj hd => hw ⟨j, by omega, hd⟩]
theorem aev_eq {x : Operand} (hx : x ∈ o.op.operands) : aev G fr x = aev G (F i) x := by
 cases x with
 | tmp t =>
  have ht : t ∈ o.looksAt ops := List.mem_append_left _ (List.mem_filterMap.2 ⟨.tmp t, by simpa using hx, rfl⟩)
  simp only [aev, slot_eq rg inv hS ho hn he hN ht]
 | _ => rfl
theorem ops_V : OpsV G μ w (F i) a o := fun x hx y hy => by
 rw [← aev_eq rg inv hS ho hn he hN hx] at hy
 exact aev_V inv.rc.glob inv.frel hy
theorem wanted_eq (hiN : i < N) : Region.wanted o (yielded ops a.tmps) = EX i := by
 have hi : i < ops.size := (Array.getElem?_eq_some_iff.1 ho).1
 refine wanted_V inv.frel ?_
 rw [← rg.wants i o hiN ho]
 unfold awanted
 cases hg : o.guard with
 | none => rfl
 | some gw =>
  obtain ⟨g, want⟩ := gw
  simp only
  have hgk : gknown ops fr g = gknown ops (F i) g ∧ ayielded ops fr g = ayielded ops (F i) g := by
   unfold gknown ayielded
   cases hd : (ops[g]?).bind (·.dst) with
   | none => exact ⟨rfl, rfl⟩
   | some d =>
    have ht : d ∈ o.looksAt ops := List.mem_append_right _ (by simp [hg, hd])
    simp only [slot_eq rg inv hS ho hn he hN ht, inv.frn, (frame_at rg (i := i) (by omega)).1, and_self]
  rw [hgk.1, hgk.2]
theorem frame_upd (hiN : i < N) : ∃ fr', fr.put o.dst (X i) = some fr' ∧ fr'.n = (F 0).n ∧ (∀ j d, j < ops.size → dstOf ops j = some d → (S j ∨ j = i) → fr'.get d = X j) ∧ (∀ d, (∀ j, j < ops.size → dstOf ops j = some d → ¬ (S j ∨ j = i)) → fr'.get d = (F 0).get d) := by
 have _ := hS; have _ := he
 have hi : i < ops.size := (Array.getElem?_eq_some_iff.1 ho).1
 have hp := rg.put i o hiN ho
 have hn0 := (frame_at rg (i := i) (by omega)).1
 cases hd : o.dst with
 | none =>
  have hdi : dstOf ops i = none := by simp [dstOf, ho, hd]
  refine ⟨fr, rfl, inv.frn, fun j d hj hjd hs => ?_, fun d hnot => inv.not d fun j hj hjd hs => hnot j hj hjd (.inl hs)⟩
  rcases hs with hs | rfl
  ·exact inv.did j d hj hjd hs
  ·rw [hdi] at hjd; cases hjd
 | some d0 =>
  have hdi : dstOf ops i = some d0 := by simp [dstOf, ho, hd]
  rw [hd] at hp
  simp only [Fr.put] at hp
  split at hp
  ·rename_i hlt
   refine ⟨fr.set d0 (X i), by simp only [Fr.put]; rw [if_pos (by rw [inv.frn, ← hn0]; exact hlt)], inv.frn, fun j d hj hjd hs => ?_, fun d hnot => ?_⟩
   ·rw [Fr.get_set]
    by_cases hdd : d = d0
    ·subst hdd
     obtain rfl := rg.st.dst j i d hj hi hjd hdi
     rw [if_pos rfl]
    ·rw [if_neg hdd]
     rcases hs with hs | rfl
     ·exact inv.did j d hj hjd hs
     ·rw [hdi] at hjd; cases hjd; exact absurd rfl hdd
   ·rw [Fr.get_set, if_neg (fun e => by subst e; exact hnot i hi hdi (.inr rfl))]
    exact inv.not d fun j hj hjd hs => hnot j hj hjd (.inl hs)
  ·cases hp
theorem eff_before (hk : kindAt ops i = .e) : k ≤ i ∧ ∀ j, k ≤ j → j < i → kindAt ops j ≠ .e := by
 have hi : i < ops.size := (Array.getElem?_eq_some_iff.1 ho).1
 refine ⟨Nat.le_of_not_lt fun h => hn ((inv.ke i (Nat.lt_of_lt_of_le h inv.kle) hk).2 h), fun j hj hji hkj => ?_⟩
 have := before_S rg inv hS ho hn he hN (rg.st.chain j i hji hi hkj (.inl hk))
 have := (inv.ke j (by omega) hkj).1 this
 omega
theorem new_ge {j x : Nat} (h : NewO ops N H EX j x) (hx : (H k).next ≤ x) : k ≤ j := by
 have _ := hS; have _ := ho; have _ := hn; have _ := he
 obtain ⟨h1, h2, h3, h4, h5⟩ := h
 rcases Nat.lt_or_ge j k with q | q
 ·have := (next_le rg (show j + 1 ≤ k by omega) inv.kle).1; omega
 ·exact q
theorem new_geT {j x : Nat} (h : NewT ops N H EX j x) (hx : (H k).tnext ≤ x) : k ≤ j := by
 have _ := hS; have _ := ho; have _ := hn; have _ := he
 obtain ⟨h1, h2, h3, h4, h5⟩ := h
 rcases Nat.lt_or_ge j k with q | q
 ·have := (next_le rg (show j + 1 ≤ k by omega) inv.kle).2; omega
 ·exact q
theorem at_eff (hk : kindAt ops i = .e) : (∀ x b, μ.obj x = some b → x < (H i).next ∧ C x = (H i).get x) ∧ (∀ t q, μ.tok t = some q → t < (H i).tnext ∧ D t = (H i).tok t) := by
 have hi : i < ops.size := (Array.getElem?_eq_some_iff.1 ho).1
 obtain ⟨hki, hno⟩ := eff_before rg inv hS ho hn he hN hk
 refine ⟨fun x b hx => ?_, fun t q ht => ?_⟩
 ·rcases inv.objs x b hx with ⟨h1, h2⟩ | ⟨h1, j, hsj, hnew, h2⟩
  ·refine ⟨Nat.lt_of_lt_of_le h1 (next_le rg hki (by omega)).1, ?_⟩
   rw [h2, stay rg hki (by omega) h1 fun j hj hji hkj _ => absurd hkj (hno j hj hji)]
  ·have hkj := new_ge rg inv hS ho hn he hN hnew h1
   obtain ⟨n1, n2, n3, n4, n5⟩ := hnew
   have hji : j < i := by
    rcases Nat.lt_trichotomy j i with q | q | q
    ·exact q
    ·subst q; rw [hk] at n2; cases n2
    ·exact absurd (after_S rg inv hS ho hn he hN (Nat.lt_of_lt_of_le n1 rg.le) hsj) (by rw [rg.st.chain i j q (Nat.lt_of_lt_of_le n1 rg.le) hk (.inr n2)]; simp)
   refine ⟨by have := (next_le rg (show j + 1 ≤ i by omega) (by omega)).1; omega, ?_⟩
   rw [h2, stay rg (show j + 1 ≤ i by omega) (by omega) (by omega) fun j' hj' hji' hkj' _ => absurd hkj' (hno j' (by omega) hji')]
 ·rcases inv.toks t q ht with ⟨h1, h2⟩ | ⟨h1, j, hsj, hnew, h2⟩
  ·refine ⟨Nat.lt_of_lt_of_le h1 (next_le rg hki (by omega)).2, ?_⟩
   rw [h2, stayT rg hki (by omega) h1 fun j hj hji hkj _ => absurd hkj (hno j hj hji)]
  ·have hkj := new_geT rg inv hS ho hn he hN hnew h1
   obtain ⟨n1, n2, n3, n4, n5⟩ := hnew
   have hji : j < i := by
    rcases Nat.lt_trichotomy j i with q | q | q
    ·exact q
    ·subst q; rw [hk] at n2; cases n2
    ·exact absurd (after_S rg inv hS ho hn he hN (Nat.lt_of_lt_of_le n1 rg.le) hsj) (by rw [rg.st.chain i j q (Nat.lt_of_lt_of_le n1 rg.le) hk (.inr n2)]; simp)
   refine ⟨by have := (next_le rg (show j + 1 ≤ i by omega) (by omega)).2; omega, ?_⟩
   rw [h2, stayT rg (show j + 1 ≤ i by omega) (by omega) (by omega) fun j' hj' hji' hkj' _ => absurd hkj' (hno j' (by omega) hji')]
theorem inv_same (hiN : i < N) (hk : kindAt ops i ≠ .e) {fr' : Fr} {a' : Act} (hf : FrRel Δ μ w fr' a') (hfn : fr'.n = (F 0).n) (hd : ∀ j d, j < ops.size → dstOf ops j = some d → (S j ∨ j = i) → fr'.get d = X j) (hnot : ∀ d, (∀ j, j < ops.size → dstOf ops j = some d → ¬ (S j ∨ j = i)) → fr'.get d = (F 0).get d) :
  Inv Δ B0 G ops N F H X EX μ0 w0 (fun j => S j ∨ j = i) k μ C D fr' a' w := by
 have _ := rg; have _ := hS; have _ := he; have _ := ho; have _ := hn
 exact ⟨inv.sc, inv.ido, inv.idt, inv.rc, hf, hfn, hd, hnot, (fun j hj h => by rcases h with h | rfl; exact inv.sub j hj h; exact hiN), inv.kle, fun j hj hkj => ⟨fun h => by
   rcases h with h | rfl
   ·exact (inv.ke j hj hkj).1 h
   ·exact absurd hkj hk, fun h => .inl ((inv.ke j hj hkj).2 h)⟩,
  fun x b hx => (inv.objs x b hx).imp id fun ⟨h1, j, hs, h2⟩ => ⟨h1, j, .inl hs, h2⟩, fun x b hx j hj => .inl (inv.late x b hx j hj),
  fun x b hx => (inv.toks x b hx).imp id fun ⟨h1, j, hs, h2⟩ => ⟨h1, j, .inl hs, h2⟩, fun x b hx j hj => .inl (inv.lateT x b hx j hj)⟩
theorem inv_step (hiN : i < N) {K : Act → World → Prop} {Q : Exit → Act → World → Prop}
  (hK : ∀ k' μ' C' D' fr' a' w', Inv Δ B0 G ops N F H X EX μ0 w0 (fun j => S j ∨ j = i) k' μ' C' D' fr' a' w' → K a' w') : wpOp P ops Q i K a w := by
 have hi : i < ops.size := (Array.getElem?_eq_some_iff.1 ho).1
 have hw := wanted_eq rg inv hS ho hn he hN hiN
 have hops := ops_V rg inv hS ho hn he hN
 obtain ⟨fr', hput, hfn, hdid, hnot⟩ := frame_upd rg inv hS ho hn he hN hiN
 unfold wpOp
 rw [ho]
 simp only
 rw [hw]
 have hkind : kindAt ops i = kindOf o := by simp [kindAt, ho]
 have hNo := rg.le
 have hsub : ∀ j, j < ops.size → (S j ∨ j = i) → j < N := fun j hj h => by rcases h with h | rfl; exact inv.sub j hj h; exact hiN
 cases hx : EX i with
 | false =>
  rw [if_neg (by simp)]
  obtain ⟨hX, hH⟩ := rg.skip i hiN hx
  have hfr : FrRel Δ μ w fr' (a.put o.dst undef) := inv.frel.put hput (by rw [hX]; exact undef_V)
  by_cases hk : kindAt ops i = .e
  ·obtain ⟨ho1, ht1⟩ := at_eff rg inv hS ho hn he hN hk
   refine hK (i + 1) μ C D fr' _ w ⟨inv.sc, inv.ido, inv.idt, inv.rc, hfr, hfn, hdid, hnot, hsub, by omega, fun j hj hkj => ?_, fun x b hxb => ?_, fun x b hxb j hj => .inl (inv.late x b hxb j hj), fun t q htq => ?_, fun t q htq j hj => .inl (inv.lateT t q htq j hj)⟩
   ·obtain ⟨hki, hno⟩ := eff_before rg inv hS ho hn he hN hk
    rw [inv.ke j hj hkj]
    constructor
    ·rintro (h | rfl) <;> omega
    ·intro h
     rcases Nat.lt_or_ge j k with q | q
     ·exact .inl q
     ·rcases Nat.lt_or_ge j i with q' | q'
      ·exact absurd hkj (hno j q q')
      ·exact .inr (by omega)
   ·left; rw [hH]; exact ho1 x b hxb
   ·left; rw [hH]; exact ht1 t q htq
  ·exact hK k μ C D fr' _ w (inv_same rg inv hS ho hn he hN hiN hk hfr hfn hdid hnot)
 | true =>
  rw [if_pos rfl]
  left
  obtain ⟨call, hc, hs⟩ := rg.step i o hiN ho hx
  unfold astep at hs
  split at hs
  ·rename_i hko
   cases h1 : pop P G (F i) o with
   | none => rw [h1] at hs; simp at hs
   | some x =>
    rw [h1] at hs; simp only [Option.map_some, Option.some.injEq, Prod.mk.injEq, AOut.ret.injEq] at hs
    obtain ⟨rfl, hH⟩ := hs
    obtain ⟨u, hr, hv⟩ := pop_run (P := P) hops hko h1
    unfold Oper.wp
    rw [hr]
    exact hK k μ C D fr' _ w (inv_same rg inv hS ho hn he hN hiN (by rw [hkind, hko]; simp) (inv.frel.put hput hv) hfn hdid hnot)
  ·rename_i hko
   cases h1 : lop P G (F i) (H i).get o with
   | none => rw [h1] at hs; simp at hs
   | some x =>
    rw [h1] at hs; simp only [Option.map_some, Option.some.injEq, Prod.mk.injEq, AOut.ret.injEq] at hs
    obtain ⟨rfl, hH⟩ := hs
    have htouch : ∀ ob, ltouch G (F i) o = some ob → C ob = (H i).get ob := fun ob hob => by
     obtain ⟨b, hb⟩ := ltouch_mapped hko hops hob
     have hlt := rg.solo i o ob hiN ho hko hob
     have hread : ∀ j, j < N → (S j ↔ ¬ j < i) → kindAt ops j = .e → EX j = true → (H j).get ob = (H (j + 1)).get ob := fun j hj hsj hkj hxj => by
      have hne : j ≠ i := fun e => by subst e; rw [hkj] at hkind; rw [hko] at hkind; cases hkind
      refine rg.read i j o ob hiN ho hj hkj hx hxj ?_ ?_ hko hob
      ·cases hb' : (anc ops i).testBit j with
       | false => rfl
       | true => exact absurd (rg.st.below i j hi hb') (hsj.1 (before_S rg inv hS ho hn he hN hb'))
      ·cases hb' : (anc ops j).testBit i with
       | false => rfl
       | true =>
        have h2 := rg.st.below j i (Nat.lt_of_lt_of_le hj hNo) hb'
        have h3 := after_S rg inv hS ho hn he hN (Nat.lt_of_lt_of_le hj hNo) (hsj.2 (by omega))
        rw [h3] at hb'; cases hb'
     rcases inv.objs ob b hb with ⟨h2, h3⟩ | ⟨h2, j, hsj, hnew, h3⟩
     ·rw [h3]
      rcases Nat.le_total k i with q | q
      ·exact (stay rg q (by omega) h2 fun j hj hji hkj hxj => hread j (by omega) ⟨fun hs => by have := (inv.ke j (by omega) hkj).1 hs; omega, fun h => by omega⟩ hkj hxj).symm
      ·exact stay rg q inv.kle hlt fun j hj hjk hkj hxj => hread j (Nat.lt_of_lt_of_le hjk inv.kle) ⟨fun _ => by omega, fun _ => (inv.ke j (Nat.lt_of_lt_of_le hjk inv.kle) hkj).2 hjk⟩ hkj hxj
     ·have hkj := new_ge rg inv hS ho hn he hN hnew h2
      obtain ⟨n1, n2, n3, n4, n5⟩ := hnew
      have hji : j < i := by
       rcases Nat.lt_or_ge j i with q | q
       ·exact q
       ·have := (next_le rg q (by omega)).1; omega
      rw [h3]
      exact (stay rg (show j + 1 ≤ i by omega) (by omega) (by omega) fun j' hj' hji' hkj' hxj' => hread j' (by omega) ⟨fun hs => by have := (inv.ke j' (by omega) hkj').1 hs; omega, fun h => by omega⟩ hkj' hxj').symm
    rw [← lop_touch (C1 := C) hko htouch] at h1
    obtain ⟨u, hr, hv⟩ := lop_run (P := P) (fun x b e => (inv.rc.obj x b e).2) hops h1
    unfold Oper.wp
    rw [hr]
    exact hK k μ C D fr' _ w (inv_same rg inv hS ho hn he hN hiN (by rw [hkind, hko]; simp) (inv.frel.put hput hv) hfn hdid hnot)
  ·rename_i hko
   cases h1 : mkop P G (F i) o with
   | none => rw [h1] at hs; simp at hs
   | some p =>
    obtain ⟨ev, g⟩ := p
    rw [h1] at hs; simp only [Option.map_some, Option.some.injEq, Prod.mk.injEq, AOut.ret.injEq] at hs
    obtain ⟨hX, hH⟩ := hs
    obtain ⟨u, ob, w', hr, hp, hev⟩ := mkop_run (P := P) hops h1
    unfold Oper.wp
    rw [hr]
    have hke : kindAt ops i ≠ .e := by rw [hkind, hko]; simp
    have hka : kindAt ops i = .a := by rw [hkind, hko]
    have hmade : ∀ j, i < j → j < k → kindAt ops j = .e → EX j = true → (anc ops i).testBit j = false ∧ (anc ops j).testBit i = false := fun j hj hjk hkj hxj => by
     have hkn := inv.kle
     refine ⟨?_, after_S rg inv hS ho hn he hN (by omega) ((inv.ke j (by omega) hkj).2 hjk)⟩
     cases hb' : (anc ops i).testBit j with
     | false => rfl
     | true => exact absurd (rg.st.below i j hi hb') (by omega)
    have ke' : ∀ j, j < N → kindAt ops j = .e → ((S j ∨ j = i) ↔ j < k) := fun j hj hkj => ⟨fun h => by
      rcases h with h | rfl
      ·exact (inv.ke j hj hkj).1 h
      ·exact absurd hkj hke, fun h => .inl ((inv.ke j hj hkj).2 h)⟩
    cases ev with
    | obj x =>
     obtain ⟨hor, hval⟩ := hev
     simp only [mkput] at hX hH
     have hnew : NewO ops N H EX i (H i).next := ⟨hiN, hka, hx, rfl, by rw [← hH]; rfl⟩
     have hun : μ.obj (H i).next = none := by
      cases hm : μ.obj (H i).next with
      | none => rfl
      | some b => exact absurd (inv.late _ b hm i hnew) hn
     have hcont : (H (i + 1)).get (H i).next = some x := by rw [← hH, AH.get_push, if_pos rfl]
     obtain ⟨sc, rc, hid⟩ := rc_new_obj (C' := fun y => if y = (H i).next then some x else C y) inv.rc hp hun ⟨by simp, fun y b hy => by
      by_cases e : y = (H i).next
      ·subst e; rw [hun] at hy; cases hy
      ·simp [e]⟩ hor
     have hcase : ∀ y b, (μ.addObj (H i).next w.heap.size).obj y = some b → y = (H i).next ∨ (y ≠ (H i).next ∧ μ.obj y = some b) := fun y b hy => by
      simp only [Mu.addObj] at hy
      by_cases e : y = (H i).next
      ·exact .inl e
      ·rw [if_neg e] at hy; exact .inr ⟨e, hy⟩
     refine hK k _ _ D fr' _ w' ⟨inv.sc.trans sc, fun y b hy => ?_, inv.idt, rc, (inv.frel.mono sc.le sc.com).put hput (by rw [← hX]; exact hval _ _ _ hid), hfn, hdid, hnot, hsub, inv.kle, ke', fun y b hy => ?_, fun y b hy j hj => ?_, fun x b hx => (inv.toks x b hx).imp id fun ⟨h1, j, hs, h2⟩ => ⟨h1, j, .inl hs, h2⟩, fun x b hx j hj => .inl (inv.lateT x b hx j hj)⟩
     ·rcases hcase y b hy with rfl | ⟨_, hy⟩
      ·exact .inr (next_le rg (Nat.zero_le i) (by omega)).1
      ·exact inv.ido y b hy
     ·rcases hcase y b hy with rfl | ⟨hne, hy⟩
      ·rcases Nat.lt_or_ge (H i).next (H k).next with q | q
       ·left
        refine ⟨q, ?_⟩
        have hik : i + 1 ≤ k := by
         rcases Nat.lt_or_ge i k with q' | q'
         ·exact q'
         ·have := (next_le rg q' (by omega)).1; omega
        simp only [if_true]
        rw [stay rg hik inv.kle (by rw [hnew.2.2.2.2]; omega) fun j hj hjk hkj hxj => by
         have hkn := inv.kle
         obtain ⟨m1, m2⟩ := hmade j (by omega) hjk hkj hxj
         exact (rg.made i j o hiN ho (by omega) hkj hx hxj m1 m2 hko).1 (by rw [hnew.2.2.2.2]; omega)]
        exact hcont.symm
       ·exact .inr ⟨q, i, .inr rfl, hnew, by simp [hcont]⟩
      ·simp only [if_neg hne]
       exact (inv.objs y b hy).imp id fun ⟨h1, j, hs, h2⟩ => ⟨h1, j, .inl hs, h2⟩
     ·rcases hcase y b hy with rfl | ⟨_, hy⟩
      ·obtain ⟨n1, n2, n3, n4, n5⟩ := hj
       obtain ⟨_, _, _, _, m5⟩ := hnew
       rcases Nat.lt_trichotomy j i with q | q | q
       ·have := (next_le rg (show j + 1 ≤ i by omega) (by omega)).1; omega
       ·exact .inr q
       ·have := (next_le rg (show i + 1 ≤ j by omega) (by omega)).1; omega
      ·exact .inl (inv.late y b hy j hj)
    | row n sz cs =>
     obtain ⟨vs, ty, sp, rfl, e1, e2, e3, rfl, rfl⟩ := hev
     simp only [mkput] at hX hH
     have hnew : NewT ops N H EX i (H i).tnext := ⟨hiN, hka, hx, rfl, by rw [← hH]; rfl⟩
     have hun : μ.tok (H i).tnext = none := by
      cases hm : μ.tok (H i).tnext with
      | none => rfl
      | some b => exact absurd (inv.lateT _ b hm i hnew) hn
     have hcont : (H (i + 1)).tok (H i).tnext = some n := by rw [← hH, AH.tok_pushTok, if_pos rfl]
     obtain ⟨sc, rc, hcells, hid⟩ := rc_new_row (D' := fun y => if y = (H i).tnext then some n else D y) inv.rc hp e1 e2 e3 ⟨by simp, fun y b hy => by
      by_cases e : y = (H i).tnext
      ·subst e; rw [hun] at hy; cases hy
      ·simp [e]⟩ hun
     have hcase : ∀ y b, (μ.addTok (H i).tnext ⟨n, w.heap.size, n * sz, sp, sz⟩ 0).tok y = some b → y = (H i).tnext ∨ (y ≠ (H i).tnext ∧ μ.tok y = some b) := fun y b hy => by
      simp only [Mu.addTok] at hy
      by_cases e : y = (H i).tnext
      ·exact .inl e
      ·rw [if_neg e] at hy; exact .inr ⟨e, hy⟩
     refine hK k _ C _ fr' _ w' ⟨inv.sc.trans sc, inv.ido, fun y b hy => ?_, rc, (inv.frel.mono sc.le sc.com).put hput (by
       rw [← hX]; simp only [V]
       exact ⟨_, 0, _, _, rfl, by omega, hcells, hid, rfl, by simp, fun _ => ⟨rfl, by simp, by simp⟩⟩), hfn, hdid, hnot, hsub, inv.kle, ke', fun x b hx => (inv.objs x b hx).imp id fun ⟨h1, j, hs, h2⟩ => ⟨h1, j, .inl hs, h2⟩, fun x b hx j hj => .inl (inv.late x b hx j hj), fun y b hy => ?_, fun y b hy j hj => ?_⟩
     ·rcases hcase y b hy with rfl | ⟨_, hy⟩
      ·exact .inr (next_le rg (Nat.zero_le i) (by omega)).2
      ·exact inv.idt y b hy
     ·rcases hcase y b hy with rfl | ⟨hne, hy⟩
      ·rcases Nat.lt_or_ge (H i).tnext (H k).tnext with q | q
       ·left
        refine ⟨q, ?_⟩
        have hik : i + 1 ≤ k := by
         rcases Nat.lt_or_ge i k with q' | q'
         ·exact q'
         ·have := (next_le rg q' (by omega)).2; omega
        simp only [if_true]
        rw [stayT rg hik inv.kle (by rw [hnew.2.2.2.2]; omega) fun j hj hjk hkj hxj => by
         have hkn := inv.kle
         obtain ⟨m1, m2⟩ := hmade j (by omega) hjk hkj hxj
         exact (rg.made i j o hiN ho (by omega) hkj hx hxj m1 m2 hko).2 (by rw [hnew.2.2.2.2]; omega)]
        exact hcont.symm
       ·exact .inr ⟨q, i, .inr rfl, hnew, by simp [hcont]⟩
      ·simp only [if_neg hne]
       exact (inv.toks y b hy).imp id fun ⟨h1, j, hs, h2⟩ => ⟨h1, j, .inl hs, h2⟩
     ·rcases hcase y b hy with rfl | ⟨_, hy⟩
      ·obtain ⟨n1, n2, n3, n4, n5⟩ := hj
       obtain ⟨_, _, _, _, m5⟩ := hnew
       rcases Nat.lt_trichotomy j i with q | q | q
       ·have := (next_le rg (show j + 1 ≤ i by omega) (by omega)).2; omega
       ·exact .inr q
       ·have := (next_le rg (show i + 1 ≤ j by omega) (by omega)).2; omega
      ·exact .inl (inv.lateT y b hy j hj)
  ·rename_i hko
   have hk : kindAt ops i = .e := by rw [hkind, hko]
   obtain ⟨ho1, ht1⟩ := at_eff rg inv hS ho hn he hN hk
   have r : R B0 G μ (H i) w := inv.rc.of (fun x b e => (ho1 x b e).2.symm) (fun t q e => (ht1 t q e).2.symm)
    (fun x hx => by
     cases hm : μ.obj x with
     | none => rfl
     | some b => have := (ho1 x b hm).1; omega)
    (fun t ht => by
     cases hm : μ.tok t with
     | none => rfl
     | some b => have := (ht1 t b hm).1; omega)
   refine eop_sound hc r hops hs (fun x μ' w' u hxe st hv => ?_) (fun x μ' w' u hxe st hv => by cases hxe)
   simp only [AOut.ret.injEq] at hxe
   subst hxe
   obtain ⟨hki, hno⟩ := eff_before rg inv hS ho hn he hN hk
   refine hK (i + 1) μ' (H (i + 1)).get (H (i + 1)).tok fr' _ w' ⟨inv.sc.trans st.sc, fun x b hxb => ?_, fun t q htq => ?_, st.r.rc, (inv.frel.mono st.le st.com).put hput hv, hfn, hdid, hnot, hsub, by omega, fun j hj hkj => ?_, fun x b hxb => .inl ⟨?_, rfl⟩, fun x b hxb j hj => ?_, fun t q htq => .inl ⟨?_, rfl⟩, fun t q htq j hj => ?_⟩
   ·rcases st.newo x b hxb with h | h
    ·exact inv.ido x b h
    ·exact .inr (Nat.le_trans (next_le rg (Nat.zero_le i) (by omega)).1 h.1)
   ·rcases st.newt t q htq with ⟨j, h, _⟩ | ⟨h | ⟨j, h⟩, _⟩
    ·exact inv.idt t j h
    ·exact .inr (Nat.le_trans (next_le rg (Nat.zero_le i) (by omega)).2 h)
    ·exact inv.idt t j h
   ·rw [inv.ke j hj hkj]
    constructor
    ·rintro (h | rfl) <;> omega
    ·intro h
     rcases Nat.lt_or_ge j k with q | q
     ·exact .inl q
     ·rcases Nat.lt_or_ge j i with q' | q'
      ·exact absurd hkj (hno j q q')
      ·exact .inr (by omega)
   ·rcases Nat.lt_or_ge x (H (i + 1)).next with q | q
    ·exact q
    ·rw [st.r.next x q] at hxb; cases hxb
   ·rcases st.newo x b hxb with h | h
    ·exact .inl (inv.late x b h j hj)
    ·have hlt : x < (H (i + 1)).next := by
      rcases Nat.lt_or_ge x (H (i + 1)).next with q | q
      ·exact q
      ·rw [st.r.next x q] at hxb; cases hxb
     obtain ⟨n1, n2, n3, n4, n5⟩ := hj
     rcases Nat.lt_trichotomy j i with q | q | q
     ·have := (next_le rg (show j + 1 ≤ i by omega) (by omega)).1; omega
     ·exact .inr q
     ·have := (next_le rg (show i + 1 ≤ j by omega) (by omega)).1; omega
   ·rcases Nat.lt_or_ge t (H (i + 1)).tnext with q' | q'
    ·exact q'
    ·rw [st.r.tnext t q'] at htq; cases htq
   ·have old : ∀ j', μ.tok t = some j' → S j ∨ j = i := fun j' h => .inl (inv.lateT t j' h j hj)
    rcases st.newt t q htq with ⟨j', h, _⟩ | ⟨h | ⟨j', h⟩, _⟩
    ·exact old j' h
    ·have hlt : t < (H (i + 1)).tnext := by
      rcases Nat.lt_or_ge t (H (i + 1)).tnext with q' | q'
      ·exact q'
      ·rw [st.r.tnext t q'] at htq; cases htq
     obtain ⟨n1, n2, n3, n4, n5⟩ := hj
     rcases Nat.lt_trichotomy j i with q' | q' | q'
     ·have := (next_le rg (show j + 1 ≤ i by omega) (by omega)).2; omega
     ·exact .inr q'
     ·have := (next_le rg (show i + 1 ≤ j by omega) (by omega)).2; omega
    ·exact old j' h
end
def Lst (l : Array Bool) (i : Nat) : Prop := l.getD i false = true
theorem lst_all (st : Static ops) {l : Array Bool} (hl : l.size = ops.size) (hr : Region.ready .any ops l = []) : ∀ n i, i < n → i < ops.size → Lst l i := by
  intro n
  induction n with
  | zero => intro i hi; omega
  | succ n ih =>
   intro i hi hio
   by_cases hli : Lst l i
   ·exact hli
   ·exfalso
    have ho : ops[i]? = some ops[i] := Array.getElem?_eq_getElem hio
    have hmem : i ∈ Region.ready .any ops l := by
     unfold Region.ready
     rw [List.mem_filter]
     refine ⟨List.mem_range.2 hio, ?_⟩
     have h1 : l.getD i true = false := by
      unfold Lst at hli
      rw [Array.getD_eq_getD_getElem?, Array.getElem?_eq_getElem (by omega)] at hli ⊢
      simpa using hli
     rw [h1, ho]
     simp only [Bool.not_false, Bool.true_and, Option.map_some, Option.getD_some, Array.all_eq_true_iff_forall_mem]
     intro e hem
     cases hb : Region.binds .any e with
     | false => rfl
     | true =>
      simp only [Bool.not_true, Bool.false_or]
      have hbit : (anc ops i).testBit e.on = true := by
       unfold anc
       rw [ancs_stable ops (Nat.lt_succ_self i) (by omega)]
       simp only [ancs, List.getD_eq_getElem?_getD]
       rw [List.getElem?_append_right (by rw [ancs_length]; omega), ancs_length, Nat.sub_self]
       simp only [List.getElem?_cons_zero, Option.getD_some, ho, ancMask]
       have : ∀ (es : List Edge) (m : Nat), (m.testBit e.on = true ∨ e ∈ es) → (es.foldl (fun m e => if Region.binds .any e then m ||| 2 ^ e.on ||| (ancs ops i).getD e.on 0 else m) m).testBit e.on = true := by
        intro es
        induction es with
        | nil => intro m h; simpa using h
        | cons e' es ih' =>
         intro m h
         simp only [List.foldl_cons]
         refine ih' _ ?_
         rcases h with h | h
         ·left
          by_cases hb' : Region.binds .any e' = true
          ·rw [if_pos hb']; simp [Nat.testBit_or, h]
          ·rw [if_neg hb']; exact h
         ·rcases List.mem_cons.1 h with rfl | h
          ·left; rw [if_pos hb]; simp [Nat.testBit_or, Nat.testBit_two_pow]
          ·exact .inr h
       exact this _ _ (.inr (by simpa using hem))
      have hlow := st.below i e.on hio hbit
      exact ih e.on (by omega) (by omega)
    rw [hr] at hmem
    cases hmem
theorem lst_set (l : Array Bool) (i j : Nat) (hi : i < l.size) : Lst (l.setIfInBounds i true) j ↔ Lst l j ∨ j = i := by
 unfold Lst
 rw [Array.getD_eq_getD_getElem?, Array.getD_eq_getD_getElem?]
 by_cases e : i = j
 ·subst e; rw [Array.getElem?_setIfInBounds_self_of_lt hi]; simp
 ·rw [Array.getElem?_setIfInBounds_ne e]
  exact ⟨.inl, fun h => h.resolve_right fun q => e q.symm⟩
theorem lst_ready (l : Array Bool) (i : Nat) (hi : i ∈ Region.ready .any ops l) (hl : l.size = ops.size) : ¬ Lst l i ∧ ∃ o, ops[i]? = some o ∧ ∀ e ∈ o.after.toList, Region.binds .any e = true → Lst l e.on := by
 unfold Region.ready at hi
 rw [List.mem_filter] at hi
 obtain ⟨h1, h2⟩ := hi
 have hio : i < ops.size := List.mem_range.1 h1
 have ho : ops[i]? = some ops[i] := Array.getElem?_eq_getElem hio
 rw [ho] at h2
 simp only [Option.map_some, Option.getD_some, Bool.and_eq_true, Array.all_eq_true_iff_forall_mem] at h2
 refine ⟨fun h => ?_, _, ho, fun e he hb => ?_⟩
 ·unfold Lst at h
  rw [Array.getD_eq_getD_getElem?, Array.getElem?_eq_getElem (by omega)] at h
  have h3 := h2.1
  rw [Array.getD_eq_getD_getElem?, Array.getElem?_eq_getElem (by omega)] at h3
  simp only [Option.getD_some] at h h3
  rw [h] at h3
  cases h3
 ·have := h2.2 e (by simpa using he)
  rw [hb] at this
  simpa [Lst] using this
theorem lst_count (l : Array Bool) (i : Nat) (hi : i < l.size) (hn : ¬ Lst l i) : (l.setIfInBounds i true).toList.count false + 1 = l.toList.count false := by
 have hf : l.toList[i]? = some false := by
  unfold Lst at hn
  rw [Array.getD_eq_getD_getElem?, Array.getElem?_eq_getElem hi] at hn
  rw [Array.getElem?_toList, Array.getElem?_eq_getElem hi]
  simpa using hn
 rw [Array.toList_setIfInBounds]
 have : ∀ (xs : List Bool) (i : Nat), xs[i]? = some false → (xs.set i true).count false + 1 = xs.count false := by
  intro xs
  induction xs with
  | nil => intro i h; simp at h
  | cons x xs ih =>
   intro i h
   cases i with
   | zero => simp at h; subst h; simp
   | succ i =>
    simp only [List.getElem?_cons_succ] at h
    have := ih i h
    simp only [List.set_cons_succ, List.count_cons]
    omega
 exact this _ i hf
theorem any_sound (rg : Reg P B0 G ops ops.size F H X EX) {Δ : List Deferred} {μ0 : Mu} {w0 : World} {Q : Exit → Act → World → Prop}
  (hfin : ∀ k μ C D fr a w, Inv Δ B0 G ops ops.size F H X EX μ0 w0 (fun i => i < ops.size) k μ C D fr a w → Q .normal a w) :
  ∀ (fuel : Nat) (l : Array Bool) {k : Nat} {μ : Mu} {C : Nat → Option AObj} {D : Nat → Option Nat} {fr : Fr} {a : Act} {w : World}, l.toList.count false ≤ fuel → l.size = ops.size →
   (∀ i o, Lst l i → ops[i]? = some o → ∀ e ∈ o.after.toList, Region.binds .any e = true → Lst l e.on) →
   Inv Δ B0 G ops ops.size F H X EX μ0 w0 (Lst l) k μ C D fr a w → wpAny P .any ops Q fuel l a w := by
 have hdone : ∀ (l : Array Bool) {k : Nat} {μ : Mu} {C : Nat → Option AObj} {D : Nat → Option Nat} {fr : Fr} {a : Act} {w : World}, l.size = ops.size →
   (∀ i o, Lst l i → ops[i]? = some o → ∀ e ∈ o.after.toList, Region.binds .any e = true → Lst l e.on) →
   Inv Δ B0 G ops ops.size F H X EX μ0 w0 (Lst l) k μ C D fr a w → Region.ready .any ops l = [] → Q .normal a w := by
  intro l k μ C D fr a w hl hS inv hr
  have hall := lst_all rg.st hl hr
  refine hfin k μ C D fr a w ⟨inv.sc, inv.ido, inv.idt, inv.rc, inv.frel, inv.frn, fun j d hj hd _ => inv.did j d hj hd (hall _ j hj hj), fun d hd => inv.not d fun j hj hjd _ => hd j hj hjd hj, fun j hj _ => hj, inv.kle, fun j hj hkj => ⟨fun _ => (inv.ke j hj hkj).1 (hall _ j hj hj), fun _ => hj⟩, fun x b hx => (inv.objs x b hx).imp id fun ⟨h1, j, hs, h2⟩ => ⟨h1, j, h2.1.1, h2⟩, fun x b hx j hj => hj.1, fun x b hx => (inv.toks x b hx).imp id fun ⟨h1, j, hs, h2⟩ => ⟨h1, j, h2.1.1, h2⟩, fun x b hx j hj => hj.1⟩
 suffices hmain : ∀ (fuel : Nat) (l : Array Bool) {k : Nat} {μ : Mu} {C : Nat → Option AObj} {D : Nat → Option Nat} {fr : Fr} {a : Act} {w : World}, l.toList.count false ≤ fuel → l.size = ops.size →
   (∀ i o, Lst l i → ops[i]? = some o → ∀ e ∈ o.after.toList, Region.binds .any e = true → Lst l e.on) →
   Inv Δ B0 G ops ops.size F H X EX μ0 w0 (Lst l) k μ C D fr a w → wpAny P .any ops Q fuel l a w from hmain
 intro fuel
 induction fuel with
 | zero =>
  intro l k μ C D fr a w hcnt hl hS inv
  have hr : Region.ready .any ops l = [] := by
   cases hr : Region.ready .any ops l with
   | nil => rfl
   | cons i xs =>
    exfalso
    have hmem : i ∈ Region.ready .any ops l := by rw [hr]; simp
    obtain ⟨hn, o, ho, _⟩ := lst_ready l i hmem hl
    have := lst_count l i (by rw [hl]; exact (Array.getElem?_eq_some_iff.1 ho).1) hn
    omega
  exact ⟨hr, hdone l hl hS inv hr⟩
 | succ fuel ih =>
  intro l k μ C D fr a w hcnt hl hS inv
  refine ⟨fun hr => hdone l hl hS inv hr, fun i hi => ?_⟩
  obtain ⟨hn, o, ho, he⟩ := lst_ready l i hi hl
  have hil : i < l.size := by rw [hl]; exact (Array.getElem?_eq_some_iff.1 ho).1
  refine inv_step rg inv hS ho hn he (Nat.le_of_lt (Array.getElem?_eq_some_iff.1 ho).1) (Array.getElem?_eq_some_iff.1 ho).1 fun k' μ' C' D' fr' a' w' inv' => ?_
  have heq : (fun j => Lst l j ∨ j = i) = Lst (l.setIfInBounds i true) := funext fun j => propext (lst_set l i j hil).symm
  rw [heq] at inv'
  refine ih (l.setIfInBounds i true) (by have := lst_count l i hil hn; omega) (by simp [hl]) (fun j o' hj hoj e' he' hb' => ?_) inv'
  rw [lst_set l i _ hil] at hj ⊢
  rcases hj with hj | rfl
  ·exact .inl (hS j o' hj hoj e' he' hb')
  ·rw [ho] at hoj; cases hoj
   exact .inl (he e' he' hb')
theorem any_pan (rg : Reg P B0 G ops N F H X EX) (hlt : N < ops.size) (hwait : ∀ j, N < j → j < ops.size → (anc ops j).testBit N = true) {Δ : List Deferred} {μ0 : Mu} {w0 : World} {Q : Exit → Act → World → Prop}
  (hpan : ∀ (S : Nat → Prop) k μ C D fr a w K, Inv Δ B0 G ops N F H X EX μ0 w0 S k μ C D fr a w → (∀ i o, S i → ops[i]? = some o → ∀ e ∈ o.after.toList, Region.binds .any e = true → S e.on) → ¬ S N →
   (∀ o, ops[N]? = some o → ∀ e ∈ o.after.toList, Region.binds .any e = true → S e.on) → wpOp P ops Q N K a w) :
  ∀ (fuel : Nat) (l : Array Bool) {k : Nat} {μ : Mu} {C : Nat → Option AObj} {D : Nat → Option Nat} {fr : Fr} {a : Act} {w : World}, l.toList.count false ≤ fuel → l.size = ops.size →
   (∀ i o, Lst l i → ops[i]? = some o → ∀ e ∈ o.after.toList, Region.binds .any e = true → Lst l e.on) →
   Inv Δ B0 G ops N F H X EX μ0 w0 (Lst l) k μ C D fr a w → wpAny P .any ops Q fuel l a w := by
 have hne : ∀ (l : Array Bool) {k : Nat} {μ : Mu} {C : Nat → Option AObj} {D : Nat → Option Nat} {fr : Fr} {a : Act} {w : World}, l.size = ops.size →
   Inv Δ B0 G ops N F H X EX μ0 w0 (Lst l) k μ C D fr a w → Region.ready .any ops l = [] → False := by
  intro l k μ C D fr a w hl inv hr
  have := inv.sub N hlt (lst_all rg.st hl hr (N + 1) N (Nat.lt_succ_self N) hlt)
  omega
 intro fuel
 induction fuel with
 | zero =>
  intro l k μ C D fr a w hcnt hl hS inv
  exfalso
  cases hr : Region.ready .any ops l with
  | nil => exact hne l hl inv hr
  | cons i xs =>
   have hmem : i ∈ Region.ready .any ops l := by rw [hr]; simp
   obtain ⟨hn, o, ho, _⟩ := lst_ready l i hmem hl
   have := lst_count l i (by rw [hl]; exact (Array.getElem?_eq_some_iff.1 ho).1) hn
   omega
 | succ fuel ih =>
  intro l k μ C D fr a w hcnt hl hS inv
  refine ⟨fun hr => (hne l hl inv hr).elim, fun i hi => ?_⟩
  obtain ⟨hn, o, ho, he⟩ := lst_ready l i hi hl
  have hio : i < ops.size := (Array.getElem?_eq_some_iff.1 ho).1
  have hil : i < l.size := by rw [hl]; exact hio
  rcases Nat.lt_trichotomy i N with q | q | q
  ·refine inv_step rg inv hS ho hn he (Nat.le_of_lt q) q fun k' μ' C' D' fr' a' w' inv' => ?_
   have heq : (fun j => Lst l j ∨ j = i) = Lst (l.setIfInBounds i true) := funext fun j => propext (lst_set l i j hil).symm
   rw [heq] at inv'
   refine ih (l.setIfInBounds i true) (by have := lst_count l i hil hn; omega) (by simp [hl]) (fun j o' hj hoj e' he' hb' => ?_) inv'
   rw [lst_set l i _ hil] at hj ⊢
   rcases hj with hj | rfl
   ·exact .inl (hS j o' hj hoj e' he' hb')
   ·rw [ho] at hoj; cases hoj
    exact .inl (he e' he' hb')
  ·subst q
   exact hpan _ k μ C D fr a w _ inv hS hn fun o' ho' => by rw [ho] at ho'; cases ho'; exact he
  ·exfalso
   have := inv.sub N hlt (anc_closed' hS ho he (hwait i q hio))
   omega
theorem reg_sound (rg : Reg P B0 G ops ops.size F H X EX) {Δ : List Deferred} {Q : Exit → Act → World → Prop} {fr fr' : Fr} {h h' : AH} {μ : Mu} {w : World} {a : Act}
  (hF : F 0 = fr) (hH : H 0 = h) (hFm : F ops.size = fr') (hHm : H ops.size = h') (r : R B0 G μ h w) (f : FrRel Δ μ w fr a)
  (hq : ∀ μ' a' w', Step B0 G μ h w μ' h' w' → FrRel Δ μ' w' fr' a' → Q .normal a' w') : wpAny P .any ops Q ops.size (Array.replicate ops.size false) a w := by
 have hl0 : ∀ i, ¬ Lst (Array.replicate ops.size false) i := fun i h => by
  unfold Lst at h
  rw [Array.getD_eq_getD_getElem?, Array.getElem?_replicate] at h
  split at h <;> simp at h
 refine any_sound (Δ := Δ) (μ0 := μ) (w0 := w) rg ?_ ops.size _ (k := 0) (C := h.get) (D := h.tok) (fr := fr) (μ := μ) ?_ (by simp) (fun i o hi => absurd hi (hl0 i)) ?_
 ·intro k μ' C D fr2 a' w' inv
  have hn := frame_at rg (Nat.le_refl ops.size)
  have ho1 : ∀ x b, μ'.obj x = some b → x < (H ops.size).next ∧ (H ops.size).get x = C x := fun x b hx => by
   have hE : ∀ j, k ≤ j → j < ops.size → kindAt ops j ≠ .e := fun j hj hjn hkj => by have := (inv.ke j hjn hkj).1 hjn; omega
   rcases inv.objs x b hx with ⟨h1, h2⟩ | ⟨h1, j, hsj, hnew, h2⟩
   ·exact ⟨Nat.lt_of_lt_of_le h1 (next_le rg inv.kle (Nat.le_refl _)).1, by rw [h2]; exact stay rg inv.kle (Nat.le_refl _) h1 fun j hj hji hkj _ => absurd hkj (hE j hj hji)⟩
   ·have hkj : k ≤ j := by
     obtain ⟨m1, m2, m3, m4, m5⟩ := hnew
     rcases Nat.lt_or_ge j k with q | q
     ·have := (next_le rg (show j + 1 ≤ k by omega) inv.kle).1; omega
     ·exact q
    obtain ⟨m1, m2, m3, m4, m5⟩ := hnew
    refine ⟨by have := (next_le rg (show j + 1 ≤ ops.size by omega) (Nat.le_refl _)).1; omega, ?_⟩
    rw [h2]; exact stay rg (by omega) (Nat.le_refl _) (by omega) fun j' hj hji hkj' _ => absurd hkj' (hE j' (by omega) hji)
  have ht1 : ∀ x b, μ'.tok x = some b → x < (H ops.size).tnext ∧ (H ops.size).tok x = D x := fun x b hx => by
   have hE : ∀ j, k ≤ j → j < ops.size → kindAt ops j ≠ .e := fun j hj hjn hkj => by have := (inv.ke j hjn hkj).1 hjn; omega
   rcases inv.toks x b hx with ⟨h1, h2⟩ | ⟨h1, j, hsj, hnew, h2⟩
   ·exact ⟨Nat.lt_of_lt_of_le h1 (next_le rg inv.kle (Nat.le_refl _)).2, by rw [h2]; exact stayT rg inv.kle (Nat.le_refl _) h1 fun j hj hji hkj _ => absurd hkj (hE j hj hji)⟩
   ·have hkj : k ≤ j := by
     obtain ⟨m1, m2, m3, m4, m5⟩ := hnew
     rcases Nat.lt_or_ge j k with q | q
     ·have := (next_le rg (show j + 1 ≤ k by omega) inv.kle).2; omega
     ·exact q
    obtain ⟨m1, m2, m3, m4, m5⟩ := hnew
    refine ⟨by have := (next_le rg (show j + 1 ≤ ops.size by omega) (Nat.le_refl _)).2; omega, ?_⟩
    rw [h2]; exact stayT rg (by omega) (Nat.le_refl _) (by omega) fun j' hj hji hkj' _ => absurd hkj' (hE j' (by omega) hji)
  have r' : R B0 G μ' (H ops.size) w' := inv.rc.of (fun x b e => (ho1 x b e).2) (fun t q e => (ht1 t q e).2)
   (fun x hx => by
    cases hm : μ'.obj x with
    | none => rfl
    | some b => have := (ho1 x b hm).1; omega)
   (fun t ht => by
    cases hm : μ'.tok t with
    | none => rfl
    | some b => have := (ht1 t b hm).1; omega)
  have hnx := next_le rg (Nat.zero_le ops.size) (Nat.le_refl _)
  refine hq μ' a' w' ⟨inv.sc.le, by rw [← hHm]; exact r', inv.sc.size, inv.sc.keep, inv.sc.com, by rw [← hH, ← hHm]; exact hnx.1, by rw [← hH, ← hHm]; exact hnx.2, fun x b hx => ?_, fun t q ht => ?_, inv.sc.newc, inv.sc.env⟩ ?_
  ·rcases inv.sc.newo x b hx with h | h
   ·exact .inl h
   ·rcases inv.ido x b hx with h' | h'
    ·exact .inl h'
    ·exact .inr ⟨by rw [← hH]; exact h', h⟩
  ·rcases inv.sc.newt t q ht with h | h
   ·exact .inl h
   ·refine .inr ⟨?_, h⟩
    rcases inv.idt t q ht with h' | h'
    ·exact .inr h'
    ·exact .inl (by rw [← hH]; exact h')
  ·refine ⟨inv.frel.defers, by rw [inv.frel.size, inv.frn, ← hn.1, hFm], fun i => ?_⟩
   have : fr'.get i = fr2.get i := by
    rw [← hFm]
    by_cases hw : ∃ j, j < ops.size ∧ dstOf ops j = some i
    ·obtain ⟨j, hj, hd⟩ := hw
     rw [(hn.2 i).1 j hj hd, inv.did j i hj hd hj]
    ·rw [(hn.2 i).2 fun j hj hd => hw ⟨j, hj, hd⟩, inv.not i fun j hj hd _ => hw ⟨j, hj, hd⟩]
   rw [this]
   exact inv.frel.val i
 ·simp
 ·refine ⟨SC.refl, fun o b h => .inl h, fun t i h => .inl ⟨i, h⟩, r.rc, f, by rw [hF], fun j d _ _ hs => absurd hs (hl0 j), fun d _ => by rw [hF], fun j _ hs => absurd hs (hl0 j), Nat.zero_le _, fun j _ _ => ⟨fun h => absurd h (hl0 j), fun h => by omega⟩, fun x b hx => .inl ⟨?_, by rw [hH]⟩, fun x b hx j hj => ?_, fun x b hx => .inl ⟨?_, by rw [hH]⟩, fun x b hx j hj => ?_⟩
  ·rw [hH]
   rcases Nat.lt_or_ge x h.next with q | q
   ·exact q
   ·rw [r.next x q] at hx; cases hx
  ·obtain ⟨m1, m2, m3, m4, m5⟩ := hj
   have hnx := (next_le rg (Nat.zero_le j) (by omega)).1
   rw [r.next x (by rw [hH] at hnx; omega)] at hx; cases hx
  ·rw [hH]
   rcases Nat.lt_or_ge x h.tnext with q | q
   ·exact q
   ·rw [r.tnext x q] at hx; cases hx
  ·obtain ⟨m1, m2, m3, m4, m5⟩ := hj
   have hnx := (next_le rg (Nat.zero_le j) (by omega)).2
   rw [r.tnext x (by rw [hH] at hnx; omega)] at hx; cases hx
def forget (fr : Fr) (ds : List Nat) : Fr := { n := fr.n, t := .fn fun i => if i ∈ ds then some .any else some (fr.get i) }
theorem forget_get (fr : Fr) (ds : List Nat) (i : Nat) : (forget fr ds).get i = if i ∈ ds then .any else fr.get i := by
 show (T.get (.fn fun i => if i ∈ ds then some .any else some (fr.get i)) i).getD .any = _
 simp only [T.get]
 by_cases h : i ∈ ds
 ·rw [if_pos h, if_pos h]; rfl
 ·rw [if_neg h, if_neg h]; rfl
def dsts (ops : Array Oper) : List Nat := ops.toList.filterMap (·.dst)
theorem mem_dsts {j d : Nat} (h : dstOf ops j = some d) : d ∈ dsts ops := by
 unfold dstOf at h
 obtain ⟨o, ho, hd⟩ := Option.bind_eq_some_iff.1 h
 exact List.mem_filterMap.2 ⟨o, Array.mem_toList_iff.2 (Array.mem_of_getElem? ho), hd⟩
theorem reg_pan (rg : Reg P B0 G ops N F H X EX) (hlt : N < ops.size) (hwait : ∀ j, N < j → j < ops.size → (anc ops j).testBit N = true) {Δ : List Deferred} {Q : Exit → Act → World → Prop} {fr : Fr} {h h' : AH} {μ : Mu} {w : World} {a : Act}
  (hF : F 0 = fr) (hH : H 0 = h) (r : R B0 G μ h w) (f : FrRel Δ μ w fr a) {o : Oper} (ho : ops[N]? = some o) (hk : kindOf o = .e) (hg : o.guard = none) {call : FuncId → List AV → AH → Option (AOut × AH)} (hc : CallOk P B0 G call) {x : AV}
  (hs : eop P G call (F N) (H N) o = some (.pan x, h'))
  (hq : ∀ μ' a' w' u, Step B0 G μ h w μ' h' w' → FrRel Δ μ' w' (forget fr (dsts ops)) a' → V μ' w' x u → Q (.panic [{ v := u, recovered := false }]) a' w') : wpAny P .any ops Q ops.size (Array.replicate ops.size false) a w := by
 have hl0 : ∀ i, ¬ Lst (Array.replicate ops.size false) i := fun i h => by
  unfold Lst at h
  rw [Array.getD_eq_getD_getElem?, Array.getElem?_replicate] at h
  split at h <;> simp at h
 refine any_pan (Δ := Δ) (μ0 := μ) (w0 := w) rg hlt hwait ?_ ops.size _ (k := 0) (C := h.get) (D := h.tok) (fr := fr) (μ := μ) ?_ (by simp) (fun i o hi => absurd hi (hl0 i)) ?_
 ·intro S k μ' C D fr2 a' w' K inv hS hn he
  have he := he o ho
  have hk' : kindAt ops N = .e := by simp [kindAt, ho, hk]
  obtain ⟨ho1, ht1⟩ := at_eff rg inv hS ho hn he (Nat.le_refl _) hk'
  have r' : R B0 G μ' (H N) w' := inv.rc.of (fun x b e => (ho1 x b e).2.symm) (fun t q e => (ht1 t q e).2.symm)
   (fun x hx => by
    cases hm : μ'.obj x with
    | none => rfl
    | some b => have := (ho1 x b hm).1; omega)
   (fun t ht => by
    cases hm : μ'.tok t with
    | none => rfl
    | some b => have := (ht1 t b hm).1; omega)
  have hops := ops_V rg inv hS ho hn he (Nat.le_refl _)
  have hnx := next_le rg (Nat.zero_le N) (Nat.le_refl _)
  have st0 : Step B0 G μ h w μ' (H N) w' := by
   refine ⟨inv.sc.le, r', inv.sc.size, inv.sc.keep, inv.sc.com, by rw [← hH]; exact hnx.1, by rw [← hH]; exact hnx.2, fun x b hx => ?_, fun t q ht => ?_, inv.sc.newc, inv.sc.env⟩
   ·rcases inv.sc.newo x b hx with h | h
    ·exact .inl h
    ·rcases inv.ido x b hx with h' | h'
     ·exact .inl h'
     ·exact .inr ⟨by rw [← hH]; exact h', h⟩
   ·rcases inv.sc.newt t q ht with h | h
    ·exact .inl h
    ·refine .inr ⟨?_, h⟩
     rcases inv.idt t q ht with h' | h'
     ·exact .inr h'
     ·exact .inl (by rw [← hH]; exact h')
  unfold wpOp
  rw [ho]
  simp only
  have hw : Region.wanted o (yielded ops a'.tmps) = true := by simp [Region.wanted, hg]
  rw [hw, if_pos rfl]
  left
  refine eop_sound hc r' hops hs (fun x μ' w' u hxe st hv => by cases hxe) (fun y μ2 w2 u hxe st hv => ?_)
  simp only [AOut.pan.injEq] at hxe
  subst hxe
  refine hq μ2 a' w2 u (st0.trans st) ⟨inv.frel.defers, by rw [inv.frel.size, inv.frn, hF]; rfl, fun i => ?_⟩ hv
  rw [forget_get]
  by_cases hd : i ∈ dsts ops
  ·rw [if_pos hd]; simp only [V]
  ·rw [if_neg hd, ← hF, ← inv.not i fun j hj hjd _ => hd (mem_dsts hjd)]
   exact V.mono st.le st.com _ _ (inv.frel.val i)
 ·simp
 ·refine ⟨SC.refl, fun o b h => .inl h, fun t i h => .inl ⟨i, h⟩, r.rc, f, by rw [hF], fun j d _ _ hs => absurd hs (hl0 j), fun d _ => by rw [hF], fun j _ hs => absurd hs (hl0 j), Nat.zero_le _, fun j _ _ => ⟨fun h => absurd h (hl0 j), fun h => by omega⟩, fun x b hx => .inl ⟨?_, by rw [hH]⟩, fun x b hx j hj => ?_, fun x b hx => .inl ⟨?_, by rw [hH]⟩, fun x b hx j hj => ?_⟩
  ·rw [hH]
   rcases Nat.lt_or_ge x h.next with q | q
   ·exact q
   ·rw [r.next x q] at hx; cases hx
  ·obtain ⟨m1, m2, m3, m4, m5⟩ := hj
   have hnx := (next_le rg (Nat.zero_le j) (by omega)).1
   rw [r.next x (by rw [hH] at hnx; omega)] at hx; cases hx
  ·rw [hH]
   rcases Nat.lt_or_ge x h.tnext with q | q
   ·exact q
   ·rw [r.tnext x q] at hx; cases hx
  ·obtain ⟨m1, m2, m3, m4, m5⟩ := hj
   have hnx := (next_le rg (Nat.zero_le j) (by omega)).2
   rw [r.tnext x (by rw [hH] at hnx; omega)] at hx; cases hx
end
end Go.Proofs.YtcjlpklgnknpgaaGreatDoor.Pg
