/-
  concept.Sorted: the keys of a map, in increasing order, in new memory.
-/
import Derived.Test.YtcjlpklgnknpgaaGreatDoorLg
import Derived.Test.YtcjlpklgnknpgaaGreatDoorShelfS
import Derived.Test.YtcjlpklgnknpgaaGreatDoorPgX
import Derived.Sort.OwnSortedInts
import Derived.Sort.KeysCollected
import Derived.Maps.RangeWalk
import Derived.Maps.AppendAt
import Derived.Test.YtcjlpklgnknpgaaGreatDoorQe
import Derived.Test.YtcjlpklgnknpgaaGreatDoorTa
set_option linter.unusedVariables false
set_option linter.unusedSimpArgs false
set_option maxRecDepth 100000
set_option maxHeartbeats 8000000
namespace Go.Proofs.YtcjlpklgnknpgaaGreatDoor.Pg
open Go
section
open Go Go.Proofs Go.Shelf Go.RowKit Go.Lib Go.Sort Go.Maps
end
section
open Go Go.Proofs Go.Shelf Go.RowKit Go.Lib Go.Sort Go.Maps Go.WideElems
namespace Sd
section
variable {B0 : Nat} {G : Nat → Option (List AV)} {μ : Mu} {h : AH} {w w' : World}
theorem step_more (r : R B0 G μ h w) (hb : ∀ b, b < w.heap.size → w'.heap[b]? = w.heap[b]?) (hs : w.heap.size ≤ w'.heap.size) (env : Env w w') : Step B0 G μ h w μ h w' := by
 have hk : ComKeep μ w w' := fun b off hc => cell_of_heap (hb b (r.com b off hc).2.2) off
 refine ⟨Le.refl _, ?_, hs, fun b hlt _ _ => hb b hlt, hk, Nat.le_refl _, Nat.le_refl _, fun _ _ e => .inl e, fun _ i e => .inl ⟨i, e, rfl⟩, fun _ _ e => .inl e, env⟩
 refine ⟨Nat.le_trans r.base hs, fun o b e => ?_, r.inj, fun b off hc => ?_, fun t i e => ?_, r.tinj, r.sep, r.next, r.tnext, fun g cs hg => Cells.mono (Le.refl _) hk _ _ _ (r.glob g cs hg)⟩
 ·obtain ⟨h0, ob, h1, h2⟩ := r.obj o b e
  exact ⟨h0, ob, h1, ORel.mono (Le.refl _) hk hs (hb b h2.lt) h2⟩
 ·obtain ⟨h0, h1, h2⟩ := r.com b off hc
  exact ⟨h0, h1, Nat.lt_of_lt_of_le h2 hs⟩
 ·obtain ⟨h0, h1, vs, ty, h2, h3⟩ := r.tok t i e
  exact ⟨h0, h1, vs, ty, (hb _ (Array.getElem?_eq_some_iff.1 h2).1).trans h2, h3⟩
end
section
variable {B0 : Nat} {G : Nat → Option (List AV)}
theorem step_com {μ μ1 : Mu} {h h1 : AH} {w w1 : World} (st : Step B0 G μ h w μ1 h1 w1) {b : Nat} (hb : w.heap.size ≤ b) (hlt : b < w1.heap.size) (ho : ∀ o, μ1.obj o ≠ some b) (ht : ∀ t i, μ1.tok t = some i → i.b ≠ b) :
  Step B0 G μ h w { μ1 with com := fun x off => μ1.com x off ∨ x = b } h1 w1 := by
 have hl : Le μ1 { μ1 with com := fun x off => μ1.com x off ∨ x = b } := ⟨fun _ _ e => e, fun _ _ e => .inl e, fun _ i e => ⟨i, e, rfl, Nat.le_refl _, fun _ => rfl⟩⟩
 have hk : ComKeep μ1 w1 w1 := fun _ _ _ => rfl
 refine ⟨st.le.trans hl, ?_, st.size, st.keep, st.com, st.next, st.tnext, st.newo, st.newt, fun x off e => ?_, st.env⟩
 ·refine ⟨st.r.base, fun o x e => ?_, st.r.inj, fun x off e => ?_, st.r.tok, st.r.tinj, st.r.sep, st.r.next, st.r.tnext, fun g cs e => Cells.mono hl hk _ _ _ (st.r.glob g cs e)⟩
  ·obtain ⟨h0, ob, h1, h2⟩ := st.r.obj o x e
   exact ⟨h0, ob, h1, ORel.mono hl hk (Nat.le_refl _) rfl h2⟩
  ·rcases e with e | rfl
   ·exact st.r.com x off e
   ·exact ⟨ho, fun t i e q => absurd q (ht t i e), hlt⟩
 ·rcases e with e | rfl
  ·exact st.newc x off e
  ·exact .inr (.inl hb)
theorem cells_of {μ : Mu} {w : World} {b : Nat} (hc : ∀ off, μ.com b off) : ∀ (cs : List AV) (us : List Value) (off : Nat), Vs μ w cs us → (∀ i u, us[i]? = some u → w.cell? ⟨b, off + i, none⟩ = some u) → Cells μ w cs b off
 | [], _, _, _, _ => trivial
 | x :: cs, us, off, hv, hw => by
  simp only [Vs] at hv
  obtain ⟨u, us', rfl, h1, h2⟩ := hv
  refine ⟨hc off, ⟨u, by have := hw 0 u rfl; simpa using this, h1⟩, cells_of hc cs us' (off + 1) h2 fun i v hi => ?_⟩
  have := hw (i + 1) v (by simpa using hi)
  rw [show off + 1 + i = off + (i + 1) by omega]; exact this
end
end Sd
end
section
open Go
section
variable {m : GM} {G : Nat → Option (List AV)}
noncomputable def ir160 : IFn := ⟨24, [⟨2, (some (some 3))⟩], (.seq (.reg [oA 1 (.box 71 (.r 0)), oA 2 (.alloc 71 [.v (.int .i64 0), .v (.int .i64 0), .sl .nil 0 []])]) (.seq (.reg [oA 6 (.fadr 2 (.r 1)), oL 7 6 none, oA 3 (kM 7)]) (.seq (.reg [oA 8 (.fadr 2 (.r 1)), oN (.store 1 (.r 8) (.k (.sl .nil 0 [])))]) (.seq (.seq (.reg [oA 9 (kM 3), oT 10 9 (.lenl (.r 9)), oA 11 (.mov (kI 0))]) (.block 0 (.loop (.seq (.reg [oA 12 (.bin .lss (.r 11) (.r 10))]) (.seq (.cond (.r 12) .skip (.exit 0)) (.seq (.block 1 (.seq (.reg [oA 13 (.iasl 3 (.r 9) (.r 11)), oL 14 13 (some 3), oA 5 (.alloc 71 [.v (.int .i64 0), .v (.int .i64 0), .sl .nil 0 []]), oN (.store 3 (.r 5) (.r 14))]) (.draw [oA 15 (.fadr 2 (.r 1)), oL 16 15 none, oL 17 5 (some 3), oT 18 17 (.call 160 [.r 17]), oA 19 (.bsl 1 3 [.v (.int .i64 0), .v (.int .i64 0), .sl .nil 0 []] [(0, (3, .r 18))]), oA 20 (.app 3 40 (.r 16) (.r 19)), oA 21 (.fadr 2 (.r 1)), oN (.store 1 (.r 21) (.r 20))] [(1, 3)]))) (.reg [oA 22 (.bin .add (.r 11) (kI 1)), oA 11 (kM 22)]))))))) (.seq (.reg [oL 23 1 (some 3), oN (.store 3 (.r 2) (.r 23))]) .ret)))))⟩
theorem c160 : cfunc Tryz.prog 160 = some ir160 := by kernel_rfl
theorem k160 : okIR (max 1 ir160.n) ir160.ir = true := by decide +kernel
theorem s_Copied : ∀ (c : Con) (j : JH), c.ok → c.nodes ≤ 1000000 → JC Tryz.prog G 160 [.agg c.enc] j (RET (.agg c.enc) j) := by
 intro c
 induction c using Con.ind with
 | h o n l ih =>
 intro j hc hm
 simp only [Con.ok] at hc
 obtain ⟨hc1, hc2, hc3, hc4⟩ := hc
 simp only [Con.nodes] at hm
 have hll : l.length ≤ Con.nodesL l := Con.nodesL_len l
 refine JC.run hmix c160 (by exact k160) ?_
 (try simp only[↓jr,jw,seval,ir160])
 refine JLOOP.of (σ := Nat × Tok × JH) (fun s => s.1 ≤ l.length ∧ TokExt j s.2.2 ∧ CanApp j s.2.2 s.2.1 3 (l.take s.1).length) (fun s => l.length - s.1)
  (fun s => [(11, I64 s.1), (10, I64 l.length), (9, .sl .none l.length (encs Con.enc l)), (1, .ptr (pid j.next 0) 0), (2, .ptr (pid j.next 1) 0)])
  (fun s => ext s.2.2 [.cells 71 (oC o n s.2.1 (l.take s.1)), .cells 71 zC]) (0, .nil, j) ⟨Nat.zero_le _, TokExt.refl _, CanApp.nil⟩ ?_ (JDropH.refl _) ?_
 ·((try simp only[↓jr,jw,seval,DL]) <;> exact sbq)
 rintro ⟨k, tk, jx⟩ ⟨hk, ht, hc⟩
 simp only at hk ht hc
 (try simp only[↓jr,jw,seval,ht.next])
 refine wq.intro (fun g1 => ?_) (fun g1 => ?_)
 ·have hlt : k < (l).length := by omega
  obtain ⟨x, r, hd⟩ : ∃ c_ l_, List.drop k (l) = c_ :: l_ := ⟨_, _, List.drop_eq_getElem_cons hlt⟩
  have hd1 : List.drop (k + 1) (l) = r := by rw [← List.drop_drop, hd]; rfl
  have hmem : x ∈ l := List.mem_of_mem_drop (hd ▸ List.mem_cons_self)
  have hcn := Con.nodesL_mem hmem
  have htk := take_one hd
  have hlk : (l.take k).length = k := by rw [List.length_take]; omega
  (try simp only[↓jr,jw,seval,ht.next,hd])
  refine wc.intro (by omega) ?_
  (try simp only[↓jr,jw,seval,ht.next,hd])
  refine JDC.use (ih x hmem _ (Con.oks_mem hc4 hmem) (by omega)) ?_
  (try simp only[↓jr,jw,seval,ht.next])
  refine JAPP.can' hc.push (ht.push 1) (by rw [encs_length Con.len]) (by rw [Con.len]) d_con9 (by omega) (by omega) ?_
  intro tok1 j1 hcan ht3 hle
  have hle' : jx.tnext ≤ j1.tnext := Nat.le_trans (Nat.le_succ _) hle
  (try simp only[↓jr,jw,seval,ht3.next])
  refine JDRAW.oc (by (try simp only[↓jr,jw,seval,jq,qe2,qe3,ht.next,ht3.next,ext_next,ext_tnext,List.length_cons,List.length_nil]) <;> (have h1 := ht.next; have h2 := ht3.next; have h4 := @pushTok_next jx 1; have h3 := @pushTok_tnext jx 1; repeat' (first | exact trivial | refine And.intro ?_ ?_ | exact Nat.le_refl _ | omega | (unfold pid; omega) | (simp only [h1, h2, h4]; done)))) ?_
  (try simp only[↓jr,jw,seval,ht3.next])
  refine wc.intro (R64_add hlt hc3) ?_
  (try simp only[↓jr,jw,seval,ht3.next])
  have e2 : (l.take (k + 1)).length = (l.take k).length + 1 := by rw [htk]; simp
  have e3 : encs Con.enc (l.take k) ++ x.enc = encs Con.enc (l.take (k + 1)) := by rw [htk, encs_append]; simp [encs]
  refine JNEXT.of (k + 1, tok1, j1) ⟨by simp only; omega, ht3, by simp only [e2]; exact hcan⟩ (by simp only; omega) ?_ (JDropH.nextT ht ht3 (TokExt.refl _) hle' ⟨.inr ⟨rfl, ?_⟩, .inl ⟨rfl, rfl⟩, True.intro⟩)
  ·(try simp only[↓jr,jw,seval,DL])
   exact ⟨SubB.v, SubB.v, SubB.sl rfl (SubBs.pure (encs_pur Con.pur _)), SubB.ptr (by have := ht3.next; unfold pid; omega), SubB.ptr (by have := ht3.next; unfold pid; omega)⟩
  ·simp only [oC, e2, ← e3]
   exact ⟨SubB.v, SubB.v, SubB.can hcan (by rw [pures_append, encs_pur Con.pur, Con.pur]; rfl), True.intro⟩
 ·(try simp only[↓jr,jw,seval,ht.next])
  have ek : k = l.length := by omega
  subst ek
  rw [List.take_length]
  refine JFIN.ret ((JDropH.back ht).of_ext) ?_
  exact SubB.agg oC_enc
mutual
def pre : Con → List Con
 | .mk o n l => .mk o n l :: preL l
def preL : List Con → List Con
 | [] => []
 | c :: l => pre c ++ preL l
end
end
end
section
open Go
section
variable {m : GM} {G : Nat → Option (List AV)}
end
end
section
open Go
section
variable {m : GM}
end
end
section
open Go
def CanP (S : Nat → Prop) (j : JH) (tok : Tok) (es n : Nat) : Prop := (tok = .nil ∧ n = 0) ∨ ∃ t, ¬ S t ∧ t < j.tnext ∧ tok = .own t 0 es ∧ j.tok t = some n
structure TokP (S : Nat → Prop) (j j1 : JH) : Prop where
 next : j1.next = j.next
 get : ∀ o, o < j.next → j1.get o = j.get o
 tnext : j.tnext ≤ j1.tnext
 tok : ∀ t, S t → j1.tok t = j.tok t
 lo : ∀ t, S t → t < j.tnext
theorem TokP.refl {S : Nat → Prop} {j : JH} (h : ∀ t, S t → t < j.tnext) : TokP S j j := ⟨rfl, fun _ _ => rfl, Nat.le_refl _, fun _ _ => rfl, h⟩
theorem TokP.trans {S : Nat → Prop} {a b c : JH} (h : TokP S a b) (k : TokP S b c) : TokP S a c :=
 ⟨k.next.trans h.next, fun o ho => (k.get o (by rw [h.next]; exact ho)).trans (h.get o ho), Nat.le_trans h.tnext k.tnext, fun t q => (k.tok t q).trans (h.tok t q), h.lo⟩
theorem TokP.sub {S S' : Nat → Prop} {a b : JH} (h : TokP S a b) (k : ∀ t, S' t → S t) : TokP S' a b :=
 ⟨h.next, h.get, h.tnext, fun t q => h.tok t (k t q), fun t q => h.lo t (k t q)⟩
theorem TokP.push {S : Nat → Prop} {a b : JH} (h : TokP S a b) (F : Nat) : TokP S a (b.pushTok F) :=
 ⟨h.next, h.get, Nat.le_succ_of_le h.tnext, fun t q => by
  show (if t = b.tnext then some F else b.tok t) = _
  rw [if_neg (by have := h.lo t q; have := h.tnext; omega)]; exact h.tok t q, h.lo⟩
theorem TokP.setT {S : Nat → Prop} {a b : JH} (h : TokP S a b) {t : Nat} (ht : ¬ S t) (F : Nat) : TokP S a (b.setTok t F) :=
 ⟨h.next, h.get, h.tnext, fun p q => by
  show (if p = t then some F else b.tok p) = _
  rw [if_neg (fun e => ht (by rw [← e]; exact q))]; exact h.tok p q, h.lo⟩
theorem CanP.push {S : Nat → Prop} {j : JH} {tok : Tok} {es n F : Nat} (h : CanP S j tok es n) : CanP S (j.pushTok F) tok es n := by
 rcases h with h | ⟨t, h1, h2, h3, h4⟩
 ·exact .inl h
 ·refine .inr ⟨t, h1, Nat.lt_succ_of_lt h2, h3, ?_⟩
  show (if t = j.tnext then some F else j.tok t) = _
  rw [if_neg (by omega)]; exact h4
theorem CanP.low {S : Nat → Prop} {j : JH} {tok : Tok} {es n : Nat} (h : CanP S j tok es n) {S' : Nat → Prop} (k : ∀ t, S' t → S t) : CanP S' j tok es n := by
 rcases h with h | ⟨t, h1, h2, h3, h4⟩
 ·exact .inl h
 ·exact .inr ⟨t, fun q => h1 (k t q), h2, h3, h4⟩
theorem CanP.stay {S S' : Nat → Prop} {j j1 : JH} {tok : Tok} {es n : Nat} (h : CanP S j tok es n) (k : TokP S' j j1) (hs : ∀ t, tok = .own t 0 es → S' t) : CanP S j1 tok es n := by
 rcases h with h | ⟨t, h1, h2, h3, h4⟩
 ·exact .inl h
 ·exact .inr ⟨t, h1, Nat.lt_of_lt_of_le h2 k.tnext, h3, by rw [k.tok t (hs t h3)]; exact h4⟩
section
variable {G : Nat → Option (List AV)}
theorem ints_dr {l : List Int} {k : Nat} : (ints l).drop k = ints (l.drop k) := by simp [ints, List.map_drop]
theorem ints_co {x : Int} {l : List Int} : ints (x :: l) = I64 x :: ints l := rfl
theorem ints_le {l : List Int} : (ints l).length = l.length := by simp [ints]
theorem take_sn {α : Type} {l : List α} {k : Nat} {c : α} {r : List α} (h : l.drop k = c :: r) : l.take (k + 1) = l.take k ++ [c] := by
 have : l[k]? = some c := by rw [← List.head?_drop, h]; rfl
 rw [List.take_add_one, this]; rfl
theorem TokP.unbox {S : Nat → Prop} {j j1 : JH} {l : List AObj} (h : TokP S (Pg.ext j l) j1) : ∃ j2, Pg.ext j1 [] = Pg.ext j2 l ∧ TokP S j j2 ∧ j2.tnext = j1.tnext ∧ j2.tok = j1.tok := by
 refine ⟨⟨j.next, j.get, j1.tnext, j1.tok⟩, ?_, ⟨rfl, fun _ _ => rfl, h.tnext, h.tok, h.lo⟩, rfl, rfl⟩
 have hn : j1.next = pid j.next l.length := h.next
 unfold Pg.ext
 simp only [JH.mk.injEq, and_true, List.length_nil]
 refine ⟨by rw [hn]; unfold pid; omega, funext fun o => ?_⟩
 by_cases h1 : o < j1.next
 ·rw [if_pos h1, h.get o (by rw [← h.next]; exact h1)]
  rfl
 ·rw [if_neg h1]
  have h2 : ¬ o < j.next := by unfold pid at hn; omega
  rw [if_neg h2]
  rw [List.getElem?_eq_none (by simp), List.getElem?_eq_none (by unfold pid at hn; omega)]
theorem CanP.eq {S : Nat → Prop} {j j1 : JH} {tok : Tok} {es n : Nat} (h : CanP S j tok es n) (e1 : j1.tnext = j.tnext) (e2 : j1.tok = j.tok) : CanP S j1 tok es n := by
 unfold CanP at *
 rw [e1, e2]; exact h
structure Two (S : Nat → Prop) (j : JH) (tA tB : Tok) (a b : List Int) : Prop where
 a : CanP S j tA 1 a.length
 b : CanP S j tB 1 b.length
 dis : ∀ t, tA = .own t 0 1 → tB ≠ .own t 0 1
end
end
section
open Go
section
variable {G : Nat → Option (List AV)}
end
end
end Go.Proofs.YtcjlpklgnknpgaaGreatDoor.Pg
