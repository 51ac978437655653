/-
  The order of pairs that the program sorts by; slices.SortFunc and slices.Clone as the layer's calls.
-/
import Derived.Test.YtnkkeenclhncmaaDoorIj
import Derived.Test.YtnkkeenclhncmaaDoorShelfS
set_option linter.unusedVariables false
set_option linter.unusedSimpArgs false
set_option maxRecDepth 100000
set_option maxHeartbeats 8000000
namespace Go.Proofs.YtnkkeenclhncmaaDoor.Pg
open Go Go.Proofs Go.Shelf Go.RowKit Go.Lib Go.Sort
abbrev P8 := _root_.Fin 256 × _root_.Fin 256
def enc8 (x : P8) : List Value := [.int .i64 (x.1.val : Int), .int .i64 (x.2.val : Int)]
def cf8 (x y : P8) : Int := if x.1 = y.1 then (x.2.val : Int) - y.2.val else (x.1.val : Int) - y.1.val
theorem cmp61 (x y : P8) (W : World) : Calls Tryd.prog 61 #[.agg (enc8 x).toArray, .agg (enc8 y).toArray] W fun e w' => e = .returned (.int .i64 (cf8 x y)) ∧ ∃ q os', w' = Sort.grow (W.drewN q) os' := by
  obtain ⟨⟨a, ha⟩, ⟨b, hb⟩⟩ := x
  obtain ⟨⟨c, hc⟩, ⟨d, hd⟩⟩ := y
  simp only [enc8]
  go_enter Tryd.func61, Tryd.ntmps61
  go_wp2_with (fail)
  · go_ret
    refine ⟨?_, 0, _, by rw [alloc_eq_grow, alloc_eq_grow, grow_grow]; rfl⟩
    show Ending.returned (Value.int .i64 ((a : Int) - c)) = _
    have hne : a ≠ c := by intro e; subst e; simp_all
    have e : cf8 (⟨a, ha⟩, ⟨b, hb⟩) (⟨c, hc⟩, ⟨d, hd⟩) = (a : Int) - c := by
      unfold cf8; rw [if_neg (by simp only [Fin.mk.injEq]; exact hne)]
    rw [e]
  · go_ret
    refine ⟨?_, 0, _, by rw [alloc_eq_grow, alloc_eq_grow, grow_grow]; rfl⟩
    show Ending.returned (Value.int .i64 ((b : Int) - d)) = _
    have hne : a = c := by
      by_cases e : a = c
      · exact e
      · exfalso; have : ((a : Int) != (c : Int)) = true := by simp; omega
        simp_all
    subst hne
    have e : cf8 (⟨a, ha⟩, ⟨b, hb⟩) (⟨a, hc⟩, ⟨d, hd⟩) = (b : Int) - d := by
      unfold cf8; rw [if_pos rfl]
    rw [e]
theorem swo8 : SWO (ltOf cf8) := by
  constructor
  · intro x
    simp [ltOf, cf8]
  · intro x y z
    simp only [ltOf, cf8, decide_eq_true_eq, Fin.ext_iff]
    intro h1 h2
    split at h1 <;> split at h2 <;> split <;> omega
  · intro x y z
    simp only [ltOf, cf8, decide_eq_false_iff_not, Fin.ext_iff]
    intro h1 h2
    split at h1 <;> split at h2 <;> split <;> omega
/-! ### A call that turns a row and lays blocks -/
section
variable {B0 : Nat} {G : Nat → Option (List AV)} {μ : Mu} {h : AH} {w w' : World}
theorem step_more (r : R B0 G μ h w) (hb : ∀ b, b < w.heap.size → w'.heap[b]? = w.heap[b]?) (hs : w.heap.size ≤ w'.heap.size) (env : Env w w') : Step B0 G μ h w μ h w' := by
  have hk : ComKeep μ w w' := fun b off hc => cell_of_heap (hb b (r.com b off hc).2.2) off
  refine ⟨Le.refl _, ?_, hs, fun b hlt _ _ => hb b hlt, hk, Nat.le_refl _, Nat.le_refl _, fun _ _ e => .inl e, fun _ i e => .inl ⟨i, e, rfl⟩, fun _ _ e => .inl e, env⟩
  refine ⟨Nat.le_trans r.base hs, fun o b e => ?_, r.inj, fun b off hc => ?_, fun t i e => ?_, r.tinj, r.sep, r.next, r.tnext, fun g cs hg => Cells.mono (Le.refl _) hk _ _ _ (r.glob g cs hg)⟩
  · obtain ⟨h0, ob, h1, h2⟩ := r.obj o b e
    exact ⟨h0, ob, h1, ORel.mono (Le.refl _) hk hs (hb b h2.lt) h2⟩
  · obtain ⟨h0, h1, h2⟩ := r.com b off hc
    exact ⟨h0, h1, Nat.lt_of_lt_of_le h2 hs⟩
  · obtain ⟨h0, h1, vs, ty, h2, h3⟩ := r.tok t i e
    exact ⟨h0, h1, vs, ty, (hb _ (Array.getElem?_eq_some_iff.1 h2).1).trans h2, h3⟩
end
abbrev PR8 (x : P8) : List AV := [I64 (x.1.val : Int), I64 (x.2.val : Int)]
theorem vs_pr8 {μ : Mu} {w : World} : ∀ (l : List P8) (ex : List AV) (us : List Value), Vs μ w (encs PR8 l ++ ex) us ↔ ∃ ux, us = l.flatMap enc8 ++ ux ∧ Vs μ w ex ux
  | [], ex, us => by simp [encs_nil]
  | x :: l, ex, us => by
    rw [encs_cons]
    simp only [PR8, List.cons_append, List.nil_append, Vs, List.flatMap_cons, enc8]
    constructor
    · rintro ⟨u1, us1, rfl, h1, u2, us2, rfl, h2, h3⟩
      obtain ⟨ux, rfl, h4⟩ := (vs_pr8 l ex us2).1 h3
      simp only [V] at h1 h2
      obtain ⟨_, rfl⟩ := h1
      obtain ⟨_, rfl⟩ := h2
      exact ⟨ux, rfl, h4⟩
    · rintro ⟨ux, rfl, h4⟩
      exact ⟨_, _, rfl, ⟨rfl, rfl⟩, _, _, rfl, ⟨rfl, rfl⟩, (vs_pr8 l ex _).2 ⟨ux, rfl, h4⟩⟩
theorem flat8_len (l : List P8) : (l.flatMap enc8).length = l.length * 2 := by
  induction l with
  | nil => rfl
  | cons x l ih => simp only [List.flatMap_cons, List.length_append, ih, List.length_cons, enc8, List.length_nil]; omega
theorem flatK8 (l : List P8) : (flatK enc8 2 l.toArray).toList = l.flatMap enc8 := by
  refine List.ext_getElem (by rw [flat8_len]; simp) fun t h1 h2 => ?_
  have ht : t < l.length * 2 := by rw [flat8_len] at h2; exact h2
  have e : ∀ (l : List P8) (t : Nat) (h : t < (l.flatMap enc8).length), (l.flatMap enc8)[t] = (enc8 l[t / 2]!)[t % 2]! := by
    intro l
    induction l with
    | nil => intro t h; simp at h
    | cons x l ih =>
      intro t h
      match t, h with
      | 0, _ => simp [enc8]
      | 1, _ => simp [enc8]
      | t + 2, h =>
        have h' : t < (l.flatMap enc8).length := by simp only [List.flatMap_cons, List.length_append, enc8, List.length_cons, List.length_nil] at h; omega
        have := ih t h'
        rw [show (t + 2) / 2 = t / 2 + 1 by omega, show (t + 2) % 2 = t % 2 by omega]
        simp only [List.flatMap_cons, enc8, List.cons_append, List.nil_append, List.getElem_cons_succ] at this ⊢
        rw [this]; simp
  rw [e l t h2]
  simp [flatK]
theorem onCells_modify {w : World} {b : Nat} {f : Array Value → Array Value} {vs : Array Value} {e : TypeId} {fz : Nat × Nat} (h : w.heap[b]? = some (.cells vs e fz)) :
    (mapBlock w b f).heap[b]? = some (.cells (f vs) e fz) ∧ (mapBlock w b f).heap.size = w.heap.size ∧ ∀ b', b' ≠ b → (mapBlock w b f).heap[b']? = w.heap[b']? := by
  refine ⟨?_, by simp [mapBlock], fun b' hb => ?_⟩
  · simp [mapBlock, Array.getElem?_modify, h, onCells]
  · simp only [mapBlock, Array.getElem?_modify]
    rw [if_neg fun e => hb e.symm]
theorem putCells_list (F c : Array Value) (A ux : List Value) (hc : c.toList = A ++ ux) (hA : A.length = F.size) : (putCells id 0 F c).toList = F.toList ++ ux := by
  refine List.ext_getElem? fun t => ?_
  have hcl : c.size = A.length + ux.length := by rw [← Array.length_toList, hc, List.length_append]
  have e : (putCells id 0 F c).toList[t]? = (c[t]?).map fun x => if 0 ≤ t ∧ t < 0 + F.size then id F[t - 0]! else x := by
    simp [putCells, Array.getElem?_mapIdx]
  rw [e]
  by_cases ht : t < F.size
  · rw [List.getElem?_append_left (by simpa using ht), Array.getElem?_eq_getElem (show t < c.size by omega)]
    simp [ht]
  · rw [List.getElem?_append_right (by simpa using ht)]
    have : c[t]? = ux[t - F.size]? := by
      rw [← Array.getElem?_toList, hc, List.getElem?_append_right (by omega), hA]
    rw [this]
    simp [ht]
theorem s_SortFunc {G : Nat → Option (List AV)} (l : List P8) (ex : List AV) (o : Nat) (E : TypeId) (j : JH) (hl : l.length < 4611686018427387904) (ho : o < j.next) (hg : j.get o = some (.cells E (encs PR8 l ++ ex))) :
    JC Tryd.prog G 60 [.arr o 0 l.length, .fn (.func 61) [] []] j fun out j' => ∃ l' : List P8, l'.Perm l ∧ l'.Pairwise (fun x y => ltOf cf8 y x = false) ∧ RET (aret []) (j.set o (.cells E (encs PR8 l' ++ ex))) out j' := by
  intro h hj B0 μ w vs r hv
  simp only [Vs, V] at hv
  obtain ⟨u1, us1, rfl, ⟨b, c, hob, rfl, hnc⟩, u2, us2, rfl, ⟨a1, a2, rfl, ha1, ha2⟩, rfl⟩ := hv
  have ea1 : a1 = #[] := by apply Array.toList_inj.1; simpa using ha1
  have ea2 : a2 = #[] := by apply Array.toList_inj.1; simpa using ha2
  subst ea1; subst ea2
  obtain ⟨hB, ob, hgo, hor⟩ := r.obj o b hob
  have hgo' : h.get o = some (.cells E (encs PR8 l ++ ex)) := by rw [← hj] at hg; exact hg
  obtain rfl : ob = .cells E (encs PR8 l ++ ex) := Option.some.inj (hgo.symm.trans hgo')
  obtain ⟨vals, hvals, hVs⟩ := hor
  obtain ⟨ux, hux, hex⟩ := (vs_pr8 l ex vals.toList).1 hVs
  have hblk : b < w.heap.size := (Array.getElem?_eq_some_iff.1 hvals).1
  have hH : HoldsK enc8 2 w b 0 l.toArray := by
    intro t ht
    rw [size_flatK] at ht
    have ht' : t < (l.flatMap enc8).length := by rw [flat8_len]; simpa using ht
    refine ⟨?_, ?_⟩
    · rw [Nat.zero_add, cell_row hvals, ← Array.getElem?_toList, hux, List.getElem?_append_left ht', ← flatK8 l, Array.getElem?_toList]
      rw [getElem!_pos _ t (by rw [size_flatK]; exact ht)]
      simp
    · simp [World.frozen?, hvals]
  have hcall := Tryd.slices_SortFunc 2 (fun w => Tryd.isAgg58 w) (fun w => Tryd.sizeOf58 w) enc8 (fun _ => rfl) (fun x v hv => by simp [enc8] at hv; rcases hv with rfl | rfl <;> rfl) cf8 swo8 61 #[] b 0 c l.toArray w (enters_of Tryd.func61 (by kernel_rfl) rfl) (fun _ _ _ _ x y => cmp61 x y _) hH hblk (by simpa using hl)
  refine hcall.mono ?_
  rintro e w' ⟨rfl, d', n, os, hP, hS, rfl⟩
  have hsz : d'.size = l.length := by have := hP.1; simpa using this
  have hperm : d'.toList.Perm l := by
    have := hP.2.2
    rw [Array.toList_extract, Array.toList_extract] at this
    simp only [List.extract_eq_take_drop, Nat.sub_zero, List.drop_zero] at this
    rw [List.take_of_length_le (by simp [hsz]), List.take_of_length_le (by simp)] at this
    exact this
  have hpw : d'.toList.Pairwise (fun x y => ltOf cf8 y x = false) := by
    rw [List.pairwise_iff_getElem]
    intro i k hi hk hik
    have hi' : i < d'.size := by simpa using hi
    have hk' : k < d'.size := by simpa using hk
    have := hS i k (Nat.zero_le _) hik (by simp only [List.size_toArray]; omega)
    rw [getElem!_pos d' i hi', getElem!_pos d' k hk'] at this
    simpa using this
  have hFs : (flatK enc8 2 d').size = d'.size * 2 := size_flatK _ _ _
  have hF : (flatK enc8 2 d').toList = d'.toList.flatMap enc8 := flatK8 d'.toList
  let wm : World := putRowK enc8 2 (Sort.ahead w n) b 0 d'
  obtain ⟨m1, m2, m3⟩ := onCells_modify (w := Sort.ahead w n) (b := b) (f := putCells id 0 (flatK enc8 2 d')) hvals
  have hml := putCells_list (flatK enc8 2 d') vals (l.flatMap enc8) ux hux (by rw [flat8_len, hFs, hsz])
  have st1 : Step B0 G μ h w μ (h.set o (.cells E (encs PR8 d'.toList ++ ex))) wm := by
    refine step_set_obj r hob ⟨m2, m1, m3⟩ ⟨rfl, rfl, rfl⟩ ?_
    intro w2 hk2 hw2
    refine ⟨_, hw2, ?_⟩
    rw [hml, hF]
    exact (vs_pr8 _ _ _).2 ⟨ux, rfl, Vs.mono (Le.refl _) hk2 _ _ hex⟩
  have st2 : Step B0 G μ (h.set o (.cells E (encs PR8 d'.toList ++ ex))) wm μ (h.set o (.cells E (encs PR8 d'.toList ++ ex))) (Sort.grow wm os) := by
    refine step_more st1.r (fun b' hb' => ?_) ?_ ⟨rfl, rfl, rfl⟩
    · simp only [Sort.grow]; exact Array.getElem?_append_left hb'
    · simp only [Sort.grow, Array.size_append]; omega
  refine ⟨.ret (aret []), h.set o (.cells E (encs PR8 d'.toList ++ ex)), ⟨d'.toList, hperm, hpw, rfl, by rw [← hj]; exact AH.j_set _ _ _⟩, μ, st1.trans st2, _, rfl, ?_⟩
  exact ⟨_, rfl, rfl⟩
theorem cells_pr8 {μ : Mu} {w : World} : ∀ (l : List P8) (b off : Nat), Cells μ w (encs PR8 l) b off → ∀ k u, (l.flatMap enc8)[k]? = some u → w.cell? ⟨b, off + k, none⟩ = some u
  | [], _, _, _, k, u, h => by simp at h
  | x :: l, b, off, hc, k, u, h => by
    rw [encs_cons] at hc
    simp only [PR8, List.cons_append, List.nil_append, Cells] at hc
    obtain ⟨_, ⟨u1, c1, v1⟩, _, ⟨u2, c2, v2⟩, hc⟩ := hc
    simp only [V] at v1 v2
    obtain ⟨_, rfl⟩ := v1
    obtain ⟨_, rfl⟩ := v2
    simp only [List.flatMap_cons, enc8, List.cons_append, List.nil_append] at h
    match k, h with
    | 0, h => simp at h; subst h; exact c1
    | 1, h => simp at h; subst h; exact c2
    | k + 2, h =>
      simp only [List.getElem?_cons_succ] at h
      have := cells_pr8 l b (off + 1 + 1) hc k u h
      rw [show off + (k + 2) = off + 1 + 1 + k by omega]; exact this
section
variable {B0 : Nat} {G : Nat → Option (List AV)} {μ : Mu} {h : AH} {w w' : World}
/-- A block that was laid somewhere behind what lay before. -/
theorem step_new_at (r : R B0 G μ h w) {g : Nat} (hg : w.heap.size ≤ g) (hlt : g < w'.heap.size) (hb : ∀ b, b < w.heap.size → w'.heap[b]? = w.heap[b]?) (env : Env w w') {ob : AObj}
    (hor : ∀ μ', Le μ μ' → ComKeep μ w w' → ORel μ' w' ob g) : Step B0 G μ h w (μ.addObj h.next g) (h.push ob) w' := by
  have hn : μ.obj h.next = none := r.next _ (Nat.le_refl _)
  have hl : Le μ (μ.addObj h.next g) := ⟨fun o b e => by
      simp only [Mu.addObj]
      by_cases ho : o = h.next
      · subst ho; rw [hn] at e; cases e
      · rw [if_neg ho]; exact e, fun _ _ e => e, fun t i e => ⟨i, e, rfl, Nat.le_refl _, fun _ => rfl⟩⟩
  have hk : ComKeep μ w w' := fun b off hc => cell_of_heap (hb b (r.com b off hc).2.2) off
  have hcase : ∀ o b, (μ.addObj h.next g).obj o = some b → (o = h.next ∧ b = g) ∨ (o ≠ h.next ∧ μ.obj o = some b) := fun o b e => by
    simp only [Mu.addObj] at e
    by_cases ho : o = h.next
    · rw [if_pos ho] at e; cases e; exact .inl ⟨ho, rfl⟩
    · rw [if_neg ho] at e; exact .inr ⟨ho, e⟩
  have hs : w.heap.size ≤ w'.heap.size := by omega
  refine ⟨hl, ?_, hs, fun b hb' _ _ => hb b hb', hk, by simp [AH.push], Nat.le_refl _, fun o b e => ?_, fun t i e => .inl ⟨i, e, rfl⟩, fun _ _ h => .inl h, env⟩
  · refine ⟨by have := r.base; omega, fun o b e => ?_, fun o o' b e e' => ?_, fun b off hc => ?_, fun t i e => ?_, r.tinj, fun t i o e e' => ?_, fun o ho => ?_, r.tnext, fun g cs hg => Cells.mono hl hk _ _ _ (r.glob g cs hg)⟩
    · rcases hcase o b e with ⟨rfl, rfl⟩ | ⟨ho, e⟩
      · exact ⟨Nat.le_trans r.base hg, ob, by rw [AH.get_push, if_pos rfl], hor _ hl hk⟩
      · obtain ⟨h0, ob', h1, h2⟩ := r.obj o b e
        exact ⟨h0, ob', by rw [AH.get_push, if_neg ho]; exact h1, ORel.mono hl hk hs (hb b h2.lt) h2⟩
    · rcases hcase o b e with ⟨rfl, rfl⟩ | ⟨ho, f⟩ <;> rcases hcase o' _ e' with ⟨rfl, hb'⟩ | ⟨ho', f'⟩
      · rfl
      · exact absurd (r.obj_lt f') (by omega)
      · subst hb'; exact absurd (r.obj_lt f) (by omega)
      · exact r.inj o o' b f f'
    · obtain ⟨h0, h1, h2⟩ := r.com b off hc
      refine ⟨fun o e => ?_, h1, by omega⟩
      rcases hcase o b e with ⟨rfl, rfl⟩ | ⟨ho, e⟩
      · omega
      · exact h0 o e
    · obtain ⟨h0, h1, vs, ty, h2, h3⟩ := r.tok t i e
      exact ⟨h0, h1, vs, ty, (hb _ (Array.getElem?_eq_some_iff.1 h2).1).trans h2, h3⟩
    · obtain ⟨h0, h1, vs, ty, h2, h3⟩ := r.tok t i e
      have := (Array.getElem?_eq_some_iff.1 h2).1
      rcases hcase o _ e' with ⟨rfl, hb'⟩ | ⟨ho, e'⟩
      · omega
      · exact r.sep t i o e e'
    · simp only [Mu.addObj]
      have : h.next + 1 ≤ o := ho
      rw [if_neg (by omega)]
      exact r.next o (by omega)
  · rcases hcase o b e with ⟨rfl, rfl⟩ | ⟨ho, e⟩
    · exact .inr ⟨Nat.le_refl _, hg⟩
    · exact .inl e
end
theorem s_Clone {G : Nat → Option (List AV)} (l : List P8) (hne : l ≠ []) (hl : l.length ≤ 8796093022208) (j : JH) :
    JC Tryd.prog G 59 [.sl .none l.length (encs PR8 l)] j fun out j' => ∃ ex : List AV, (∀ x ∈ ex, x = .any) ∧ RET (.arr j.next 0 l.length) (j.push (.cells 58 (encs PR8 l ++ ex))) out j' := by
  intro h hj B0 μ w vs r hv
  simp only [Vs, V] at hv
  obtain ⟨u1, us1, rfl, ⟨A, c, rfl, hnc, hA⟩, rfl⟩ := hv
  obtain ⟨b, off, rfl, hC⟩ := hA (by
    cases l with
    | nil => exact absurd rfl hne
    | cons x l => simp [encs_cons])
  have hcall := Tryd.slices_Clone _ (.agg #[.int .i64 0, .int .i64 0]) 2 16 (hi := rfl) (by kernel_rfl) (by kernel_rfl) (by kernel_rfl) (by kernel_rfl) (by decide) (fun w => Tryd.sizeOf58 w) b off l.length c (l.flatMap enc8) w (flat8_len l) (by unfold maxLen; omega) (by omega) (cells_pr8 l b off hC) (fun u hu => by
    obtain ⟨x, _, hx⟩ := List.mem_flatMap.1 hu
    simp [enc8] at hx; rcases hx with rfl | rfl <;> rfl)
  refine hcall.mono ?_
  rintro e w' ⟨v', rfl, hown, hv', hbe⟩
  obtain ⟨_, hx⟩ := hown
  rcases hx with ⟨q, _⟩ | ⟨g, cap, cur, rfl, hg, hgw, hcap, _, hcs, htk⟩
  · exact absurd q hv'
  have hux : cur.toList = l.flatMap enc8 ++ cur.toList.drop (l.length * 2) := by rw [← htk]; exact (List.take_append_drop _ _).symm
  have hany : ∀ (us : List Value) (μ' : Mu), Vs μ' w' (us.map fun _ => AV.any) us := by
    intro us μ'
    induction us with
    | nil => rfl
    | cons u us ih => exact ⟨u, us, rfl, trivial, ih⟩
  have st : Step B0 G μ h w (μ.addObj h.next g) (h.push (.cells 58 (encs PR8 l ++ (cur.toList.drop (l.length * 2)).map fun _ => AV.any))) w' := by
    refine step_new_at r hg (Array.getElem?_eq_some_iff.1 hgw).1 hbe.block ⟨hbe.os, hbe.tape, hbe.output⟩ ?_
    intro μ' _ _
    refine ⟨cur, hgw, ?_⟩
    exact (vs_pr8 l _ _).2 ⟨_, hux, hany _ _⟩
  refine ⟨.ret (.arr h.next 0 l.length), _, ⟨(cur.toList.drop (l.length * 2)).map fun _ => AV.any, fun x hx => by obtain ⟨_, _, rfl⟩ := List.mem_map.1 hx; rfl, ?_⟩, _, st, _, rfl, ?_⟩
  · refine ⟨by rw [← hj]; rfl, by rw [← hj]; exact AH.j_push _ _⟩
  · exact ⟨g, cap, by simp [Mu.addObj], rfl, hcap⟩
end Go.Proofs.YtnkkeenclhncmaaDoor.Pg
