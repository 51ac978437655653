/-
  A new row that nobody else holds becomes a row that stays.
-/
import Derived.Test.YtnkkeenclhncmaaDoorIl
set_option linter.unusedVariables false
set_option linter.unusedSimpArgs false
set_option maxRecDepth 100000
set_option maxHeartbeats 8000000
namespace Go.Proofs.YtnkkeenclhncmaaDoor.Pg
open Go
section
variable {B0 : Nat} {G : Nat → Option (List AV)} {P : Program}
theorem step_com {μ μ1 : Mu} {h h1 : AH} {w w1 : World} (st : Step B0 G μ h w μ1 h1 w1) {b : Nat} (hb : w.heap.size ≤ b) (hlt : b < w1.heap.size) (ho : ∀ o, μ1.obj o ≠ some b) (ht : ∀ t i, μ1.tok t = some i → i.b ≠ b) :
    Step B0 G μ h w { μ1 with com := fun x off => μ1.com x off ∨ x = b } h1 w1 := by
  have hl : Le μ1 { μ1 with com := fun x off => μ1.com x off ∨ x = b } := ⟨fun _ _ e => e, fun _ _ e => .inl e, fun _ i e => ⟨i, e, rfl, Nat.le_refl _, fun _ => rfl⟩⟩
  have hk : ComKeep μ1 w1 w1 := fun _ _ _ => rfl
  refine ⟨st.le.trans hl, ?_, st.size, st.keep, st.com, st.next, st.tnext, st.newo, st.newt, fun x off e => ?_, st.env⟩
  · refine ⟨st.r.base, fun o x e => ?_, st.r.inj, fun x off e => ?_, st.r.tok, st.r.tinj, st.r.sep, st.r.next, st.r.tnext, fun g cs e => Cells.mono hl hk _ _ _ (st.r.glob g cs e)⟩
    · obtain ⟨h0, ob, h1, h2⟩ := st.r.obj o x e
      exact ⟨h0, ob, h1, ORel.mono hl hk (Nat.le_refl _) rfl h2⟩
    · rcases e with e | rfl
      · exact st.r.com x off e
      · exact ⟨ho, fun t i e q => absurd q (ht t i e), hlt⟩
  · rcases e with e | rfl
    · exact st.newc x off e
    · exact .inr (.inl hb)
theorem cells_of {μ : Mu} {w : World} {b : Nat} (hc : ∀ off, μ.com b off) : ∀ (cs : List AV) (us : List Value) (off : Nat), Vs μ w cs us → (∀ i u, us[i]? = some u → w.cell? ⟨b, off + i, none⟩ = some u) → Cells μ w cs b off
  | [], _, _, _, _ => trivial
  | x :: cs, us, off, hv, hw => by
    simp only [Vs] at hv
    obtain ⟨u, us', rfl, h1, h2⟩ := hv
    refine ⟨hc off, ⟨u, by have := hw 0 u rfl; simpa using this, h1⟩, cells_of hc cs us' (off + 1) h2 fun i v hi => ?_⟩
    have := hw (i + 1) v (by simpa using hi)
    rw [show off + 1 + i = off + (i + 1) by omega]; exact this
theorem Vs.split {μ : Mu} {w : World} : ∀ {xs ys : List AV} {us : List Value}, Vs μ w (xs ++ ys) us → ∃ a b, us = a ++ b ∧ Vs μ w xs a ∧ Vs μ w ys b
  | [], ys, us, h => ⟨[], us, rfl, rfl, h⟩
  | x :: xs, ys, us, h => by
    simp only [List.cons_append, Vs] at h
    obtain ⟨u, us', rfl, h1, h2⟩ := h
    obtain ⟨a, b, rfl, h3, h4⟩ := Vs.split h2
    exact ⟨u :: a, b, rfl, ⟨u, a, rfl, h1, h3⟩, h4⟩
/-- A call that hands back one new row: what lies in it stays. -/
theorem JC.freeze {f : FuncId} {args : List AV} {j : JH} {Q : Nat → List AV → Prop}
    (c : JC P G f args j fun o j' => ∃ ob n cs ex e, Q n cs ∧ AV.pures cs = true ∧ o = .ret (.arr ob 0 n) ∧ New j j' ∧ j.next ≤ ob ∧ j'.get ob = some (.cells e (cs ++ ex))) :
    JC P G f args j fun o j' => ∃ n cs, Q n cs ∧ RET (.sl .none n cs) (ext j []) o j' := by
  rintro hh rfl B0 μ w vs r hv
  refine (c hh rfl B0 μ w vs r hv).mono ?_
  rintro e w' ⟨o, h', ⟨ob, n, cs, ex, te, q, hp, rfl, hN, hob, hg⟩, μ', st, u, rfl, hu⟩
  obtain ⟨μ'', hm, st'⟩ := MoveH.step (hs := hh) (h' := h') (h'' := (ext hh.j []).a) (ρ := fun _ => 0) (k := 0) ⟨rfl, rfl, hN.tnext, fun o ho => ⟨hN.get o ho, ext_get_old ho⟩, fun t ht => (hN.tok t ht).symm, fun i hi => by omega, fun i i' h1 h2 _ => by omega⟩ r st
  simp only [V] at hu
  obtain ⟨b, cp, hob2, rfl, hnc⟩ := hu
  obtain ⟨hB, obj, hgo, hor⟩ := st.r.obj ob b hob2
  have hgo' : h'.get ob = some (.cells te (cs ++ ex)) := hg
  obtain rfl : obj = .cells te (cs ++ ex) := Option.some.inj (hgo.symm.trans hgo')
  obtain ⟨vals, hvals, hVs⟩ := hor
  have hbs : w.heap.size ≤ b := by
    rcases st.newo ob b hob2 with h1 | h1
    · rw [r.next ob hob] at h1; cases h1
    · exact h1.2
  have hno : ∀ o, μ''.obj o ≠ some b := fun o e => by
    rw [hm.obj] at e
    split at e
    · rename_i hlt
      have := st.r.inj o ob b e hob2
      have h3 : hh.j.next = hh.next := rfl
      omega
    · split at e
      · omega
      · cases e
  have hnt : ∀ t i, μ''.tok t = some i → i.b ≠ b := fun t i e q => by
    rw [hm.tok] at e
    split at e
    · exact st.r.sep t i ob e (by rw [q]; exact hob2)
    · cases e
  have st2 := step_com st' hbs (Array.getElem?_eq_some_iff.1 hvals).1 hno hnt
  refine ⟨.ret (.sl .none n cs), (ext hh.j []).a, ⟨n, cs, q, rfl, rfl⟩, _, st2, _, rfl, ?_⟩
  obtain ⟨ua, ub, hab, hva, _⟩ := Vs.split hVs
  simp only [V]
  refine ⟨_, cp, rfl, hnc, fun _ => ⟨b, 0, rfl, ?_⟩⟩
  refine cells_of (fun off => Or.inr rfl) cs ua 0 (Vs.pureC (μ := μ') (fun x off e => Or.inl ((hm.com x off).2 e)) hp hva) fun i v hi => ?_
  rw [Nat.zero_add, cell_row hvals, ← Array.getElem?_toList, hab, List.getElem?_append_left (List.getElem?_eq_some_iff.1 hi).1]
  exact hi
end
section
variable {m : GM}
/-- The pairs of an inverse role, in order. -/
def RelOK (i : Itp) (n : Int) (l : List P8) : Prop := l.Perm (((rolI i n).map toP8).map swap8) ∧ l.Pairwise (fun x y => ltOf cf8 y x = false)
theorem s_Related2 {G : Nat → Option (List AV)} (i : Itp) (hi : i.wf) (hk : i.ok) (n : Int) (h0 : 0 ≤ n) (h1 : n < 2 * i.rols.length) (hm : n.tmod 2 = 1) (hne : rolI i n ≠ []) (j : JH) :
    JC Tryd.prog G 38 [.agg i.enc, I64 n] j fun o j' => ∃ k cs, (∃ l, RelOK i n l ∧ k = l.length ∧ cs = encs PR8 l) ∧ RET (.sl .none k cs) (ext j []) o j' := by
  refine JC.freeze ?_
  refine JC.mono (s_Related1 (G := G) i hi hk n h0 h1 hm hne j) ?_
  rintro o j' ⟨l', ex, hp, hw, hex, rfl, rfl⟩
  have hlen : (rolI i n).length = l'.length := by have := hp.length_eq; simp at this; omega
  exact ⟨pid j.next 1, _, encs PR8 l', ex, AE, ⟨l', ⟨hp, hw⟩, hlen, rfl⟩, pr8_pur l', rfl, New.ext, by unfold pid; omega, ext_get_new rfl⟩
def ir9 : IFn := ⟨28, [⟨6, none⟩, ⟨7, none⟩], (.seq (.reg [oA 3 (.box 24 (.r 0)), oA 4 (.box 29 (.r 1)), oA 6 (.mov (.k (.sl .nil 0 []))), oA 7 (.mov (kI 0))]) (.seq (.seq (.reg [oL 9 3 (some 3), oL 10 4 (some 4), oA 11 (.call 37 [.r 9, .r 10, .k (.sl .nil 0 [])]), oA 8 (kM 11)]) (.seq (.reg [oA 12 (kM 8), oA 13 (.bin .neq (.r 12) (kI 0))]) (.cond (.r 13) (.seq (.reg [oA 14 (kM 8), oA 6 (.mov (.k (.sl .nil 0 []))), oA 7 (kM 14)]) .ret) .skip))) (.seq (.seq (.reg [oA 15 (kM 2), oA 16 (.bin .lss (.r 15) (kI 0)), oA 17 (kM 16), ⟨(some 18), (some ((17, false))), none, (kM 2)⟩, ⟨(some 19), (some ((17, false))), none, (.fadr 1 (.r 3))⟩, ⟨(some 20), (some ((17, false))), (some (.r 19)), (.load none (.r 19))⟩, ⟨(some 21), (some ((17, false))), (some (.r 20)), (.lenl (.r 20))⟩, ⟨(some 22), (some ((17, false))), none, (.bin .mul (kI 2) (.r 21))⟩, ⟨(some 23), (some ((17, false))), none, (.bin .geq (.r 18) (.r 22))⟩, oA 24 (.pick (.r 17) (kB true) (.r 23))]) (.cond (.r 24) (.seq (.reg [oA 6 (.mov (.k (.sl .nil 0 []))), oA 7 (.mov (kI 1))]) .ret) .skip)) (.seq (.reg [oL 25 4 (some 4), oA 26 (kM 2), oA 27 (.call 38 [.r 25, .r 26]), oA 6 (kM 27), oA 7 (.mov (kI 0))]) .ret))))⟩
theorem c9 : cfunc Tryd.prog 9 = some ir9 := by kernel_rfl
theorem k9 : okIR (max 3 ir9.n) ir9.ir = true := by decide +kernel
theorem s_Pairs1 (n : Nms) (hn : n.ok) (hs : n.short) (i : Itp) (hok : i.ok) (r : Int) (hf : fineI n i [] = 0) (h0 : 0 ≤ r) (h1 : r < 2 * i.rols.length) (hm : r.tmod 2 = 1) (hne : rolI i r ≠ []) (j : JH) :
    JC Tryd.prog (GG m) 9 [.agg n.enc, .agg i.enc, I64 r] j fun o j' => ∃ l, RelOK i r l ∧ RET (.tup [.sl .none l.length (encs PR8 l), I64 0]) j o j' := by
  refine JC.run hmix c9 (by exact k9) ?_
  (try simp only[↓jr,jw,seval,ji,ir9])
  have hf0 := s_ifine (m := m) i hok n hn hs [] .nil trivial (by simp) (by simp) (ext j [.cells 24 n.enc, .cells 29 i.enc])
  rw [encs_nil, hf] at hf0
  refine JCs.ret hf0 ?_
  (try simp only[↓jr,jw,seval,ji])
  have hk1 := hok.r1
  obtain ⟨_, _, h3⟩ := fineI_zero hf
  have hrl := (Itp.wf_of h3).2.2.1
  refine wq.intro (fun q => absurd q (by omega)) (fun _ => ?_)
  (try simp only[↓jr,jw,seval,ji])
  refine wr.in (by unfold R64; omega) ?_
  (try simp only[↓jr,jw,seval,ji])
  refine wq.intro (fun q => absurd q (by omega)) (fun _ => ?_)
  (try simp only[↓jr,jw,seval,ji])
  refine JCs.use (s_Related2 i (Itp.wf_of h3).1 hok r h0 h1 hm hne _) ?_
  rintro o1 j1 ⟨k, cs, ⟨l, hl, rfl, rfl⟩, rfl, rfl⟩
  rw [ext_ext, List.append_nil]
  (try simp only[↓jr,jw,seval,ji])
  refine JFIN.of (Y := .tup [.sl .none l.length (encs PR8 l), I64 0]) (JDropH.back (TokExt.refl _)).of_ext (SubB.tup ⟨SubB.sl rfl (SubBs.pure (pr8_pur _)), SubB.v, True.intro⟩) ⟨l, hl, rfl, rfl⟩
end
end Go.Proofs.YtnkkeenclhncmaaDoor.Pg
