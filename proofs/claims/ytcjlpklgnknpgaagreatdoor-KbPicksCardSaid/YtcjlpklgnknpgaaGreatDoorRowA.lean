/-
  What the arguments read as: the data, out of their reading.
-/
import Derived.Test.YtcjlpklgnknpgaaGreatDoorPgM
import Derived.ChangeArms
import GoSem.ClaimJoined
set_option linter.unusedVariables false
set_option linter.unusedSimpArgs false
set_option maxRecDepth 20000
namespace Go.Proofs.YtcjlpklgnknpgaaGreatDoor.Pg
open Go
section
variable {H : Type} {enc : TypeId × Value → H} {P : Program} {W : World} {α β : Type}
def muW (W : World) : Mu := { obj := fun _ => none, com := fun b _ => b < W.heap.size, tok := fun _ => none }
def Dec (enc : TypeId × Value → H) (P : Program) (W : World) (F : Nat) (t : TypeId) (n : Nat) (e : α → List AV) (ok : α → Prop) : Prop :=
 ∀ (fuel base : Nat) (sp : Nat → Bool) (held : Bool) (cs : List Value) (x : DataW H × List MemPlace), fuel ≤ F → DataW.trod enc P W base sp held fuel t cs = some x → (∀ k ∈ x.1.weights P t, k ≤ reachBytes) → ∃ a, ok a ∧ cs.length = n ∧ Vs (muW W) W (e a) cs
def DF (enc : TypeId × Value → H) (P : Program) (W : World) (F : Nat) (fs : List (TypeId × Nat)) (o m : Nat) (e : α → List AV) (ok : α → Prop) : Prop :=
 ∀ (fuel base : Nat) (sp : Nat → Bool) (held : Bool) (cs : List Value) (xs : List (DataW H × List MemPlace)), fuel ≤ F → xs.length = fs.length → (∀ (i : Nat) (f : TypeId × Nat), fs[i]? = some f → DataW.trod enc P W base sp held fuel f.1 ((cs.drop f.2).take (P.cellsOf f.1)) = xs[i]?) →
  (∀ k ∈ DataW.weightsEach P (fs.map (·.1)) (xs.map (·.1)), k ≤ reachBytes) → cs.length = o + m → ∃ a, ok a ∧ Vs (muW W) W (e a) (cs.drop o)
theorem Dec.mono {F F' : Nat} {t : TypeId} {n : Nat} {e : α → List AV} {ok : α → Prop} (h : Dec enc P W F t n e ok) (hF : F' ≤ F) : Dec enc P W F' t n e ok :=
 fun fuel base sp held cs x h1 => h fuel base sp held cs x (Nat.le_trans h1 hF)
theorem Dec.map {F : Nat} {t : TypeId} {n : Nat} {e : α → List AV} {e' : β → List AV} {ok : α → Prop} {ok' : β → Prop} (h : Dec enc P W F t n e ok) (f : α → β) (he : ∀ a, e a = e' (f a)) (hk : ∀ a, ok a → ok' (f a)) : Dec enc P W F t n e' ok' :=
 fun fuel base sp held cs x h1 h2 h3 => by
  obtain ⟨a, k1, k2, k3⟩ := h fuel base sp held cs x h1 h2 h3
  exact ⟨f a, hk a k1, k2, by rw [← he]; exact k3⟩
theorem Vs_one {μ : Mu} {w : World} {x : AV} {u : Value} (h : V μ w x u) : Vs μ w [x] [u] := by simp only [Vs]; exact ⟨u, [], rfl, h, rfl⟩
theorem dec_int {F : Nat} {t : TypeId} (hu : P.underlying t = some (.int .i64)) : Dec enc P W F t 1 (fun i : Int => [I64 i]) R64 := by
 intro fuel base sp held cs x _ h _
 obtain ⟨n, rfl, rfl, hw⟩ := DataW.trod_int hu h
 refine ⟨n, ?_, rfl, Vs_one (by simp [V, plain])⟩
 simp only [Lit.wf, Bool.and_eq_true, decide_eq_true_eq] at hw
 exact ⟨hw.1, hw.2⟩
theorem dec_str {F : Nat} {t : TypeId} (hu : P.underlying t = some .string) : Dec enc P W F t 1 (fun s : ByteArray => [STR s]) (fun s => s.size < 4611686018427387904) := by
 intro fuel base sp held cs x _ h hk
 obtain ⟨s, rfl, rfl, hs⟩ := DataW.trod_string hu h
 refine ⟨s, ?_, rfl, Vs_one (by simp [V, plain])⟩
 have := hk s.data.toList.length (by simp [DataW.weights])
 have e : s.data.toList.length = s.size := by simp
 rw [e] at this
 unfold reachBytes at this
 omega
theorem cell_addr {a : Addr} {v : Value} (h : W.cell? a = some v) : a = ⟨a.block, a.off, none⟩ := by
 obtain ⟨b, off, spot⟩ := a
 cases spot with
 | none => rfl
 | some s =>
  simp only [World.cell?] at h
  split at h
  ·simp at h
  ·cases h
theorem add_block (a : Addr) (n : Nat) : (a.add n).block = a.block := by unfold Addr.add; split <;> rfl
theorem add_off (a : Addr) (n : Nat) : (a.add n).off = a.off + n := by unfold Addr.add; split <;> simp_all
theorem cells_get {base n : Nat} {a : Addr} {cs : List Value} (h : W.cells? base a n = some cs) : cs.length = n ∧ ∀ q, q < n → ∃ v, cs[q]? = some v ∧ W.cell? ⟨a.block, a.off + q, none⟩ = some v ∧ (a.add q).spot = none := by
 unfold World.cells? at h
 split at h
 ·have hl : cs.length = n := by simpa using mapM_some_length h
  refine ⟨hl, fun q hq => ?_⟩
  have hg := mapM_some_get h q q (by simp [hq])
  have hs : cs[q]? = some (cs[q]'(by omega)) := List.getElem?_eq_getElem (by omega)
  rw [hs] at hg
  have ha := cell_addr hg
  rw [add_block, add_off] at ha
  refine ⟨_, hs, by rw [← ha]; exact hg, by rw [ha]⟩
 ·cases h
theorem list_of {Q : Nat → α → Prop} : ∀ n, (∀ i, i < n → ∃ b, Q i b) → ∃ l : List α, l.length = n ∧ ∀ i b, l[i]? = some b → Q i b
 | 0, _ => ⟨[], rfl, fun i b h => by simp at h⟩
 | n + 1, h => by
  obtain ⟨l, h1, h2⟩ := list_of n fun i hi => h i (by omega)
  obtain ⟨b, hb⟩ := h n (by omega)
  refine ⟨l ++ [b], by simp [h1], fun i c hc => ?_⟩
  rw [List.getElem?_append] at hc
  split at hc
  ·exact h2 i c hc
  ·rename_i hi
   have : i = n := by
    rcases Nat.lt_or_ge i (n + 1) with q | q
    ·omega
    ·rw [List.getElem?_eq_none (by simp; omega)] at hc; cases hc
   subst this
   rw [h1, Nat.sub_self] at hc
   simp at hc; subst hc; exact hb
theorem Cells_encs {μ : Mu} {w : World} {e : α → List AV} {m : Nat} (hm : ∀ a, (e a).length = m) : ∀ (l : List α) (b off : Nat), (∀ i a, l[i]? = some a → Cells μ w (e a) b (off + i * m)) → Cells μ w (encs e l) b off
 | [], b, off, _ => by rw [encs_nil]; simp only [Cells]
 | x :: l, b, off, h => by
  rw [encs_cons]
  refine Cells.append (by have := h 0 x rfl; rwa [Nat.zero_mul, Nat.add_zero] at this) (Cells_encs hm l b _ fun i a ha => ?_)
  have := h (i + 1) a (by simpa using ha)
  rw [hm]
  rw [Nat.add_mul, Nat.one_mul] at this
  rw [show off + m + i * m = off + (i * m + m) from by omega]; exact this
theorem weightsAll_mem {e : TypeId} : ∀ {l : List (DataW H)} {i : Nat} {d : DataW H}, l[i]? = some d → ∀ k ∈ d.weights P e, k ∈ DataW.weightsAll P e l
 | [], i, d, h, _, _ => by simp at h
 | y :: l, 0, d, h, k, hk => by
  simp at h; subst h
  simp only [DataW.weightsAll, List.mem_append]; exact .inl hk
 | y :: l, i + 1, d, h, k, hk => by
  simp only [DataW.weightsAll, List.mem_append]; exact .inr (weightsAll_mem (by simpa using h) k hk)
theorem dec_slice {F : Nat} {t el : TypeId} {m : Nat} {e : α → List AV} {ok : α → Prop} (hu : P.underlying t = some (.slice el)) (hc : P.cellsOf el = m) (hm0 : 0 < m) (hb : 0 < P.bytesOf el) (hm : ∀ a, (e a).length = m) (h : Dec enc P W F el m e ok) :
  Dec enc P W (F + 1) t 1 (fun l : List α => [.sl .none l.length (encs e l)]) (fun l => l.length ≤ reachBytes ∧ ∀ a ∈ l, ok a) := by
 intro fuel base sp held cs x hF ht hk
 rcases DataW.trod_slice hu ht with ⟨rfl, rfl⟩ | ⟨a, len, cap, elems, rest, n, rfl, rfl, rfl, hbl, hl, hcap, hlen, hel, _, _⟩
 ·exact ⟨[], ⟨by simp, by simp⟩, rfl, Vs_one (by simp only [V]; exact ⟨none, 0, rfl, Nat.le_refl _, fun q => absurd rfl q⟩)⟩
 ·simp only [DataW.weights, hu, List.mem_cons, List.mem_append] at hk
  obtain ⟨l, hl1, hl2⟩ := list_of (Q := fun i b => ok b ∧ Cells (muW W) W (e b) a.block (a.off + i * m) ∧ (0 < len → a.spot = none)) len fun i hi => by
   have he := hel i hi
   have hy : elems[i]? = some (elems[i]'(by omega)) := List.getElem?_eq_getElem (by omega)
   rw [hy, Option.bind_eq_some_iff] at he
   obtain ⟨cs', h1, h2⟩ := he
   rw [hc] at h1
   obtain ⟨b, k1, k2, k3⟩ := h n base sp held cs' _ (by omega) h2 (fun k hk' => hk k (.inr (.inl (weightsAll_mem (l := elems.map (·.1)) (i := i) (by simp [hy]) k hk'))))
   obtain ⟨g1, g2⟩ := cells_get h1
   refine ⟨b, k1, Cells.mk fun q y hq => ?_, fun _ => ?_⟩
   ·have hqm : q < m := by
     rw [← hm b]
     rcases Nat.lt_or_ge q (e b).length with q1 | q1
     ·exact q1
     ·rw [List.getElem?_eq_none q1] at hq; cases hq
    obtain ⟨v, e1, e2, _⟩ := g2 q hqm
    obtain ⟨u, e3, e4⟩ := k3.get q y hq
    rw [e1] at e3; cases e3
    rw [add_block, add_off] at e2
    exact ⟨World.block_lt_of_cell? W ⟨a.block, a.off + i * m + q, none⟩ e2, v, e2, e4⟩
   ·have he0 := hel 0 (by omega)
    have hy0 : elems[0]? = some (elems[0]'(by omega)) := List.getElem?_eq_getElem (by omega)
    rw [hy0, Option.bind_eq_some_iff] at he0
    obtain ⟨cs0, h10, _⟩ := he0
    rw [hc, Nat.zero_mul] at h10
    obtain ⟨_, _, _, g3⟩ := (cells_get h10).2 0 hm0
    simpa [Addr.add] using g3
  refine ⟨l, ⟨?_, fun b hb' => ?_⟩, rfl, Vs_one ?_⟩
  ·have := hk _ (.inl rfl)
   simp only [List.length_map] at this
   have h2 : elems.length ≤ (elems.length + rest.length) * P.bytesOf el := Nat.le_trans (Nat.le_add_right _ _) (Nat.le_mul_of_pos_right _ hb)
   omega
  ·obtain ⟨i, hi⟩ := List.getElem?_of_mem hb'
   exact (hl2 i b hi).1
  ·simp only [V]
   refine ⟨some a, cap, by rw [hl1], by omega, fun hne => ?_⟩
   have hpos : 0 < l.length := by
    cases l with
    | nil => exact absurd encs_nil hne
    | cons _ _ => simp
   have h0 := hl2 0 _ (List.getElem?_eq_getElem hpos)
   have hsp := h0.2.2 (by omega)
   refine ⟨a.block, a.off, ?_, Cells_encs hm l _ _ fun i b hi => (hl2 i b hi).2.1⟩
   obtain ⟨x1, x2, x3⟩ := a
   simp only at hsp; subst hsp; rfl
theorem DF_nil {F o : Nat} : DF enc P W F [] o 0 (fun _ : Unit => []) (fun _ => True) := by
 intro fuel base sp held cs xs _ _ _ _ hl
 exact ⟨(), trivial, by rw [List.drop_eq_nil_of_le (by omega)]; simp only [Vs]⟩
theorem DF_cons {F o n m : Nat} {t : TypeId} {fs : List (TypeId × Nat)} {e : α → List AV} {ok : α → Prop} {e' : β → List AV} {ok' : β → Prop} (h : Dec enc P W F t n e ok) (hc : P.cellsOf t = n) (k : DF enc P W F fs (o + n) m e' ok') :
  DF enc P W F ((t, o) :: fs) o (n + m) (fun p : α × β => e p.1 ++ e' p.2) (fun p => ok p.1 ∧ ok' p.2) := by
 intro fuel base sp held cs xs hF hl hx hw hlen
 cases xs with
 | nil => simp at hl
 | cons x xs =>
  simp only [List.map_cons, DataW.weightsEach, List.mem_append] at hw
  have h0 := hx 0 _ rfl
  simp only [List.getElem?_cons_zero] at h0
  rw [hc] at h0
  obtain ⟨a, a1, a2, a3⟩ := h fuel base sp held _ x hF h0 (fun q hq => hw q (.inl hq))
  obtain ⟨b, b1, b2⟩ := k fuel base sp held cs xs hF (by simpa using hl) (fun i f hf => by have := hx (i + 1) f (by simpa using hf); simpa using this) (fun q hq => hw q (.inr hq)) (by omega)
  refine ⟨(a, b), ⟨a1, b1⟩, ?_⟩
  have := a3.append b2
  rwa [← List.drop_drop, List.take_append_drop] at this
theorem DF.dec {F m : Nat} {t : TypeId} {fs : Array Field} {L : List (TypeId × Nat)} {e : α → List AV} {ok : α → Prop} (hu : P.underlying t = some (.struct fs)) (hL : fs.toList.map (fun f => (f.type, f.offset)) = L) (hc : P.cellsOf t = m) (h : DF enc P W F L 0 m e ok) :
  Dec enc P W (F + 1) t m e ok := by
 intro fuel base sp held cs x hF ht hk
 obtain ⟨xs, n, rfl, rfl, h1, h2, h3⟩ := DataW.trod_struct hu ht
 simp only [DataW.weights, hu] at hk
 obtain ⟨a, a1, a2⟩ := h n base sp held cs xs (by omega) (by rw [h2, ← hL]; simp) (fun i f hf => by
   rw [← hL, List.getElem?_map, Option.map_eq_some_iff] at hf
   obtain ⟨g, hg, rfl⟩ := hf
   exact h3 i g (by simpa using hg))
  (by rw [← hL, List.map_map]; exact hk) (by rw [h1, hc]; omega)
 exact ⟨a, a1, by rw [h1, hc], by simpa using a2⟩
end
end Go.Proofs.YtcjlpklgnknpgaaGreatDoor.Pg
