/-
  Results that are new memory may be written.
-/
import Derived.Test.YtnkkeenclhncmaaDoorIv
set_option linter.unusedVariables false
set_option linter.unusedSimpArgs false
set_option maxRecDepth 100000
set_option maxHeartbeats 8000000
namespace Go.Proofs.YtnkkeenclhncmaaDoor.Pg
open Go
/-- An own row, full; or a row by a name. -/
def FreshR (j' : JH) (n es : Nat) (x : AV) : Prop := (∃ t cs, x = .sl (.own t 0 es) n cs ∧ j'.tok t = some n) ∨ (∃ ob off ty cs, x = .arr ob off n ∧ j'.get ob = some (.cells ty cs) ∧ off + n * es ≤ cs.length)
theorem vs_anys {μ : Mu} {w : World} : ∀ (us : List Value), Vs μ w (List.replicate us.length AV.any) us
  | [] => rfl
  | u :: us => ⟨u, us, rfl, trivial, vs_anys us⟩
section
variable {P : Program} {G : Nat → Option (List AV)}
theorem JC.thaw (hG : ∀ g cs, G g = some cs → AV.pures cs = true) {f : FuncId} {args : List AV} (pa : AV.pures args = true) {n es : Nat} {y : Value} {j : JH}
    (c : JC P G f args AH.empty.j fun o j' => ∃ x, o = .ret (.tup [x, .v y]) ∧ FreshR j' n es x) :
    JC P G f args j fun o j' => ∃ off N ty, off + n * es ≤ N ∧ RET (.tup [.arr j.next off n, .v y]) (j.push (.cells ty (List.replicate N .any))) o j' := by
  rintro h rfl B0 μ w vs r hv
  have hr0 : Restr 0 0 μ { obj := fun _ => none, com := μ.com, tok := fun _ => none } := ⟨fun _ => rfl, fun _ => rfl, fun _ _ => Iff.rfl⟩
  have r0 : R B0 G { obj := fun _ => none, com := μ.com, tok := fun _ => none } AH.empty w :=
    ⟨r.base, fun _ _ e => (by cases e), fun _ _ _ e => (by cases e), fun b off e => ⟨fun _ => (by simp), fun _ _ e => (by cases e), (r.com b off e).2.2⟩, fun _ _ e => (by cases e), fun _ _ _ _ e => (by cases e), fun _ _ _ e => (by cases e), fun _ _ => rfl, fun _ _ => rfl, fun g cs e => Cells.restr hr0 cs g 0 (hG g cs e) (r.glob g cs e)⟩
  refine (c AH.empty rfl B0 _ w vs r0 (Vs.restr hr0 args vs pa hv)).mono ?_
  rintro e w' ⟨out, h', ⟨x, rfl, hx⟩, μ', st, hout⟩
  obtain ⟨u, rfl, hu⟩ := hout
  have hkeep : ∀ b, b < w.heap.size → w'.heap[b]? = w.heap[b]? := fun b hb => st.keep b hb (fun _ => by simp) (fun _ _ e => by cases e)
  simp only [V, Vs] at hu
  obtain ⟨us, rfl, u1, us1, hus, hv1, u2, us2, rfl, ⟨hp, rfl⟩, rfl⟩ := hu
  have key : ∃ b off cp, w.heap.size ≤ b ∧ u1 = .slice (some ⟨b, off, none⟩) n cp ∧ n ≤ cp ∧ ∃ (vals : Array Value) (ty : TypeId), w'.heap[b]? = some (.cells vals ty (0, 0)) ∧ off + n * es ≤ vals.size := by
    rcases hx with ⟨t, cs, rfl, ht⟩ | ⟨ob, off, ty, cs, rfl, hg, hle⟩
    · simp only [V] at hv1
      obtain ⟨b, off, cp, i, rfl, hn, hc, hti, hz, hF, hf⟩ := hv1
      obtain ⟨h0, h1, vals, ty, h2, h3⟩ := st.r.tok t i hti
      have hFn : i.F = n := Option.some.inj (h1.symm.trans ht)
      obtain ⟨rfl, h5, h6⟩ := hf (by omega)
      refine ⟨i.b, off, cp, ?_, rfl, hn, vals, ty, h2, ?_⟩
      · rcases st.newt t i hti with ⟨_, q, _⟩ | ⟨_, q⟩
        · cases q
        · exact q
      · rw [← hz]; omega
    · simp only [V] at hv1
      obtain ⟨b, cp, hob, rfl, hn⟩ := hv1
      obtain ⟨h0, obj, h1, h2⟩ := st.r.obj ob b hob
      obtain rfl : obj = .cells ty cs := Option.some.inj (h1.symm.trans hg)
      obtain ⟨vals, hvals, hVs⟩ := h2
      refine ⟨b, off, cp, ?_, rfl, hn, vals, ty, hvals, by have := hVs.length; simp at this; omega⟩
      rcases st.newo ob b hob with q | ⟨_, q⟩
      · cases q
      · exact q
  obtain ⟨b, off, cp, hb, rfl, hn, vals, ty, hvals, hle⟩ := key
  have hlen : vals.toList.length = vals.size := by simp
  have st2 : Step B0 G μ h w (μ.addObj h.next b) (h.push (.cells ty (List.replicate vals.size AV.any))) w' :=
    step_new_at r hb (Array.getElem?_eq_some_iff.1 hvals).1 hkeep st.env fun μ2 _ _ => ⟨vals, hvals, by rw [← hlen]; exact vs_anys _⟩
  have hus2 : us = #[.slice (some ⟨b, off, none⟩) n cp, u2] := Array.toList_inj.1 hus
  refine ⟨.ret (.tup [.arr h.next off n, .v u2]), _, ⟨off, vals.size, ty, hle, rfl, ?_⟩, _, st2, _, rfl, ?_⟩
  · exact AH.j_push _ _
  · refine ⟨us, rfl, _, _, hus, ⟨b, cp, by simp [Mu.addObj], rfl, hn⟩, _, _, rfl, ⟨hp, rfl⟩, rfl⟩
theorem Cells.pureC {μ μ' : Mu} {w : World} (hc : ∀ b off, μ.com b off → μ'.com b off) {x : List AV} {b off : Nat} (p : AV.pures x = true) (h : Cells μ w x b off) : Cells μ' w x b off := by
  let μ0 : Mu := { obj := fun _ => none, com := μ.com, tok := fun _ => none }
  have hr : Restr 0 0 μ μ0 := ⟨fun o => by simp [μ0], fun t => by simp [μ0], fun _ _ => Iff.rfl⟩
  exact Cells.dom (μ0 := μ0) (fun o q => absurd rfl q) (fun t q => absurd rfl q) hc x b off b off (Cells.restr hr x b off p h) h
/-- A new own row takes the next token; what else is new is let go. -/
theorem own_step {B0 : Nat} {hs h' : AH} {μ μ' : Mu} {w w' : World} {t n : Nat} (r : R B0 G μ hs w) (st : Step B0 G μ hs w μ' h' w') (hob : ∀ o, o < hs.next → h'.get o = hs.get o) (htk : ∀ x, x < hs.tnext → h'.tok x = hs.tok x) (hge : hs.tnext ≤ t) (hF : h'.tok t = some n) :
    ∃ μ2 : Mu, (∀ b off, μ'.com b off → μ2.com b off) ∧ μ2.tok hs.tnext = μ'.tok t ∧ Step B0 G μ hs w μ2 (hs.pushTok n) w' := by
  let μ2 : Mu := { obj := fun o => if o < hs.next then μ'.obj o else none, com := μ'.com, tok := fun x => if x < hs.tnext then μ'.tok x else if x = hs.tnext then μ'.tok t else none }
  have ho2 : ∀ o b, μ2.obj o = some b → o < hs.next ∧ μ'.obj o = some b := fun o b e => by
    simp only [μ2] at e; split at e
    · exact ⟨‹_›, e⟩
    · cases e
  have ht2 : ∀ x i, μ2.tok x = some i → (x < hs.tnext ∧ μ'.tok x = some i) ∨ (x = hs.tnext ∧ μ'.tok t = some i) := fun x i e => by
    simp only [μ2] at e; split at e
    · exact .inl ⟨‹_›, e⟩
    · split at e
      · exact .inr ⟨‹_›, e⟩
      · cases e
  have hold : ∀ o, μ.obj o ≠ none → o < hs.next := fun o ho => by
    rcases Nat.lt_or_ge o hs.next with q | q
    · exact q
    · exact absurd (r.next o q) ho
  have holdt : ∀ o, μ.tok o ≠ none → o < hs.tnext := fun o ho => by
    rcases Nat.lt_or_ge o hs.tnext with q | q
    · exact q
    · exact absurd (r.tnext o q) ho
  have hobj : ∀ o, μ.obj o ≠ none → μ2.obj o = μ'.obj o := fun o ho => by simp only [μ2]; rw [if_pos (hold o ho)]
  have htok : ∀ o, μ.tok o ≠ none → μ2.tok o = μ'.tok o := fun o ho => by simp only [μ2]; rw [if_pos (holdt o ho)]
  have hex : ∀ x i, μ2.tok x = some i → ∃ x', μ'.tok x' = some i := fun x i e => by
    rcases ht2 x i e with ⟨_, e⟩ | ⟨_, e⟩
    · exact ⟨_, e⟩
    · exact ⟨_, e⟩
  refine ⟨μ2, fun b off q => q, by simp [μ2], ⟨⟨fun o b e => ?_, fun b off e => st.le.com b off e, fun x i e => ?_⟩, ?_, st.size, st.keep, st.com, Nat.le_refl _, by simp [AH.pushTok], fun o b e => st.newo o b (ho2 o b e).2, fun x i e => ?_, fun b off e => st.newc b off e, st.env⟩⟩
  · rw [hobj o (by rw [e]; simp)]; exact st.le.obj o b e
  · rw [htok x (by rw [e]; simp)]; exact st.le.tok x i e
  · refine ⟨st.r.base, fun o b e => ?_, fun o o' b e e' => st.r.inj o o' b (ho2 o b e).2 (ho2 o' b e').2, fun b off e => ?_, fun x i e => ?_, fun x x' i i' e e' hb => ?_,
      fun x i o e e' => ?_, fun o ho => ?_, fun x hx => ?_, fun g cs e => ?_⟩
    · obtain ⟨hlt, e1⟩ := ho2 o b e
      obtain ⟨hb, ob, hg, hor⟩ := st.r.obj o b e1
      have e0 : μ.obj o = some b := by
        rcases st.newo o b e1 with q | q
        · exact q
        · omega
      obtain ⟨_, ob0, hg0, hor0⟩ := r.obj o b e0
      have hg2 : hs.get o = some ob := (hob o hlt).symm.trans hg
      rw [hg2] at hg0; cases hg0
      exact ⟨hb, ob, hg2, ORel.dom hobj htok (fun _ _ q => q) hor0 hor⟩
    · obtain ⟨h1, h2, h3⟩ := st.r.com b off e
      exact ⟨fun o q => h1 o (ho2 o b q).2, fun x i q => by obtain ⟨x', q'⟩ := hex x i q; exact h2 x' i q', h3⟩
    · rcases ht2 x i e with ⟨hlt, e1⟩ | ⟨rfl, e1⟩
      · obtain ⟨h1, h2, h3⟩ := st.r.tok x i e1
        refine ⟨h1, ?_, h3⟩
        have : (hs.pushTok n).tok x = hs.tok x := by
          show (hs.toks.set hs.tnext n).get x = _
          rw [T.get_set, if_neg (by omega)]; rfl
        rw [this, ← htk x hlt]; exact h2
      · obtain ⟨h1, h2, h3⟩ := st.r.tok t i e1
        refine ⟨h1, ?_, h3⟩
        have : (hs.pushTok n).tok hs.tnext = some n := by
          show (hs.toks.set hs.tnext n).get hs.tnext = _
          rw [T.get_set, if_pos rfl]
        rw [this, ← hF]; exact h2
    · rcases ht2 x i e with ⟨h1, e1⟩ | ⟨rfl, e1⟩ <;> rcases ht2 x' i' e' with ⟨h1', e1'⟩ | ⟨rfl, e1'⟩
      · exact st.r.tinj x x' i i' e1 e1' hb
      · have := st.r.tinj x t i i' e1 e1' hb; omega
      · have := st.r.tinj t x' i i' e1 e1' hb; omega
      · rfl
    · obtain ⟨x', q'⟩ := hex x i e
      exact st.r.sep x' i o q' (ho2 o i.b e').2
    · simp only [μ2]; rw [if_neg (by have : hs.next ≤ o := ho; omega)]
    · have : hs.tnext + 1 ≤ x := hx
      simp only [μ2]; rw [if_neg (by omega), if_neg (by omega)]
    · exact Cells.dom hobj htok (fun _ _ q => q) _ _ _ _ _ (r.glob g cs e) (st.r.glob g cs e)
  · rcases ht2 x i e with ⟨hlt, e1⟩ | ⟨rfl, e1⟩
    · exact st.newt x i e1
    · rcases st.newt t i e1 with ⟨q, h1, _⟩ | ⟨_, q⟩
      · rw [r.tnext t hge] at h1; cases h1
      · exact .inr ⟨.inl (Nat.le_refl _), q⟩
theorem JC.own {f : FuncId} {args : List AV} {j : JH} {n es : Nat} {cs : List AV} (p : AV.pures cs = true)
    (c : JC P G f args j fun o j' => ∃ t, o = .ret (.sl (.own t 0 es) n cs) ∧ New j j' ∧ j.tnext ≤ t ∧ j'.tok t = some n) : JC P G f args j (RET (.sl (.own j.tnext 0 es) n cs) (j.pushTok n)) := by
  rintro hh rfl B0 μ w vs r hv
  refine (c hh rfl B0 μ w vs r hv).mono ?_
  rintro e w' ⟨o, h', ⟨t, rfl, hN, hge, hF⟩, μ', st, u, rfl, hu⟩
  obtain ⟨μ2, hc, ht, st2⟩ := own_step r st hN.get hN.tok hge hF
  refine ⟨.ret (.sl (.own hh.tnext 0 es) n cs), _, ⟨rfl, AH.j_pushTok _ _⟩, μ2, st2, u, rfl, ?_⟩
  simp only [V] at hu ⊢
  obtain ⟨b, off, cp, i, rfl, hn, hcs, hti, hrest⟩ := hu
  exact ⟨b, off, cp, i, rfl, hn, Cells.pureC hc p hcs, ht.trans hti, hrest⟩
end
end Go.Proofs.YtnkkeenclhncmaaDoor.Pg
