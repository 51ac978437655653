/-
  Ranging over a function: a round from its body.
-/
import Derived.Test.YtcjlpklgnknpgaaGreatDoorPgN
set_option linter.unusedVariables false
set_option linter.unusedSimpArgs false
set_option maxRecDepth 100000
namespace Go.Proofs.YtcjlpklgnknpgaaGreatDoor.Pg
open Go
section
variable {P : Program} {G : Nat → Option (List AV)}
/-- The slots of a round. -/
def psL : L → List Tmp → List AV → L
  | l, p :: ps, x :: xs => psL ((p, x) :: l) ps xs
  | l, _, _ => l
theorem psL_FR {N : Nat} : ∀ {ps : List Tmp} {xs : List AV} {fr : Fr} {l : L}, FR N fr l → FR N (setps fr ps xs) (psL l ps xs)
  | [], _, _, _, h => by simpa [setps, psL] using h
  | p :: ps, [], _, _, h => by simpa [setps, psL] using h
  | p :: ps, x :: xs, fr, l, h => by simp only [setps, psL]; exact psL_FR (h.set p x)
/-- What a round's body owes. -/
def rndQ (o : Nat) (ob busy : AObj) (j : JH) (Q : AOut → JH → Prop) : AX → L → JH → Prop
  | .norm, _, j3 => j3.get o = some busy ∧ ∃ y j'', JDropW j (j3.set o ob) j'' ∧ SubB j''.next j''.tnext (.v (.bool true)) y ∧ Q (.ret y) j''
  | _, _, _ => False
def rndA (P : Program) (G : Nat → Option (List AV)) (b : IR) (o : Nat) (ob busy : AObj) (j : JH) (Q : AOut → JH → Prop) : AX → L → JH → Prop
  | .norm, l2, j2 => j2.get o = some ob ∧ jwp P G b l2 (j2.set o busy) (rndQ o ob busy j Q)
  | _, _, _ => False
theorem JY.of_round {o : Nat} {args : List AV} {j : JH} {fr : Fr} {ps : Array Tmp} {ca cb : Code} {a b : IR} {l : L} {Q : AOut → JH → Prop}
    (hob : j.get o = some (.loop fr .ready none ps ca cb)) (hlen : args.length = ps.size) (hps : ∀ p ∈ ps.toList, p < fr.n) (hf : ∀ i, fr.get i = lk l i)
    (ha : ∀ fr' l' (h : AH) Q, FR fr.n fr' l' → jwp P G a l' h.j Q → WP P G false ca fr' h (JQ fr.n Q)) (hb : ∀ fr' l' (h : AH) Q, FR fr.n fr' l' → jwp P G b l' h.j Q → WP P G false cb fr' h (JQ fr.n Q))
    (k : jwp P G a (psL l ps.toList args) j (rndA P G b o (.loop fr .ready none ps ca cb) (.loop fr .busy none ps ca cb) j Q)) : JY P G o args j Q := by
  rintro h rfl
  refine CALLY.of_wp hob hlen hps ?_
  refine WP.mono (ha _ _ h _ (psL_FR ⟨rfl, hf⟩) k) ?_
  rintro x fr2 h2 ⟨l2, f2, q⟩
  cases x with
  | norm =>
    obtain ⟨q1, q2⟩ := q
    refine ⟨q1, WP.mono (hb _ l2 (h2.set o (.loop fr .busy none ps ca cb)) _ f2 (by rw [AH.j_set]; exact q2)) ?_⟩
    rintro x fr3 h3 ⟨l3, f3, q⟩
    cases x with
    | norm =>
      obtain ⟨q3, y, j'', d, s, q4⟩ := q
      refine ⟨q3, y, j''.a, ?_, s, q4⟩
      rcases d with d | d
      · exact .inl (by rw [← AH.j_set] at d; exact d.a)
      · refine .inr ?_
        rw [d, ← AH.j_set]
        exact ⟨rfl, rfl, rfl, rfl⟩
    | _ => exact q.elim
  | _ => exact q.elim
/-- Ranging over a function whose rounds all end as they should: the function is handed a loop that answers as the body says. -/
theorem JRNG.of {it : FuncId} {cap : List AV} {ps : Array Tmp} {ca cb : Code} {a b : IR} {l : L} {j : JH} {Q : AX → L → JH → Prop} (hB : hasBody P it = true)
    (k : ∀ ob busy : AObj, (∀ args j' Q', j'.get j.next = some ob → args.length = ps.size → jwp P G a (psL l ps.toList args) j' (rndA P G b j.next ob busy j' Q') → JY P G j.next args j' Q') →
      JC P G it (.yld j.next :: cap) (j.push ob) fun o j' => ∃ x, o = .ret x ∧ j'.get j.next = some ob ∧ Q .norm l (j'.set j.next .dead)) : @JRNG P G (.fn (.func it) [] cap) ps ca cb a b l j ⟨Q⟩ := by
  show jwp P G (.rng (.k (.fn (.func it) [] cap)) ps ca cb a b) l j Q
  refine ⟨hB, fun fr hf hps ha hb => ?_⟩
  refine JC.mono (k (.loop fr .ready none ps ca cb) (.loop fr .busy none ps ca cb) fun args j' Q' hg hl kk => JY.of_round hg hl hps hf ha hb kk) ?_
  rintro o j' ⟨x, rfl, hg, q⟩
  exact ⟨fr, .ready, none, ps, ca, cb, hg, (by decide), q⟩
end
end Go.Proofs.YtcjlpklgnknpgaaGreatDoor.Pg
