/-
  The program's reader: Finish.
-/
import Derived.Test.YtcajjicdbphkpaaDoorQt
set_option linter.unusedVariables false
set_option linter.unusedSimpArgs false
set_option maxRecDepth 100000
set_option maxHeartbeats 8000000
namespace Go.Proofs.YtcajjicdbphkpaaDoor.Pg
open Go
/-- What is known when names are looked up: numbers, and whether one is missing. -/
structure FS where
  v : Nat → Int
  bad : Bool
def finS (n : Nms) : List (Nat × Bool × List UInt8 × Bool) → FS → FS
  | [], s => s
  | (i, role, t, inv) :: r, s => finS n r (if lateF n role (ofL t) < 0 then ⟨s.v, true⟩ else ⟨updV s.v i (lateN n role inv (ofL t)), s.bad⟩)
theorem Lates.len {j : JH} {ro : Nat} : ∀ {its : List (Nat × Bool × List UInt8 × Bool)} {avs : List AV}, Lates j ro its avs → avs.length = its.length
  | [], [], _ => rfl
  | (i, role, s, inv) :: r, av :: avs, h => by simp [Lates.len h.2]
  | [], _ :: _, h => h.elim
  | (_, _, _, _) :: _, [], h => h.elim
mutual
theorem IT.items_ids : ∀ (t : IT), ∀ x ∈ t.items, x.1 ∈ t.ids
  | .mk i op ref l, x, hx => by
    simp only [IT.items, List.mem_append] at hx
    simp only [IT.ids, List.mem_cons]
    rcases hx with hx | hx
    · cases ref with
      | none => cases hx
      | some y => simp only [List.mem_cons, List.not_mem_nil, or_false] at hx; subst hx; exact .inl rfl
    · exact .inr (IT.items_idsL l x hx)
theorem IT.items_idsL : ∀ (l : List IT), ∀ x ∈ IT.itemsL l, x.1 ∈ IT.idsL l
  | [], x, hx => by simp [IT.itemsL] at hx
  | t :: l, x, hx => by
    simp only [IT.itemsL, List.mem_append] at hx
    simp only [IT.idsL, List.mem_append]
    rcases hx with hx | hx
    · exact .inl (IT.items_ids t x hx)
    · exact .inr (IT.items_idsL l x hx)
end
theorem Lates.set {j : JH} {ro : Nat} {x : AObj} {its : List (Nat × Bool × List UInt8 × Bool)} {avs : List AV} (h : Lates j ro its avs) : Lates (j.set ro x) ro its avs := h.grow (Grow.set (tb := 0))
section
variable {m : Int} {G : Nat → Option (List AV)}
theorem s_late (n : Nms) (h1 : n.cs.length ≤ 1000000) (h2 : n.rs.length ≤ 1000000) {j : JH} {ro nb : Nat} {ts : List (List UInt8)} {bb : Bool} {lt : Tok} {ls : List AV} (h : PRd j ro nb ts bb lt ls) (tn : TypeId) (hnb : j.get nb = some (.cells tn n.enc)) (s : ByteArray) (role inv : Bool) (p : Nat) (a b c d : Nat)
    (hL : Late j ro role s inv p (lateV a b c d)) (op n0 : Int) (sl : AV) (hp : p < j.next) (hgp : j.get p = some (.cells TE [I64 op, I64 n0, .sl .nil 0 [], sl])) (hlow : AV.low j.next j.tnext sl = true) :
    JC Tryd.prog G 100 [.ptr a 0, .ptr b 0, .ptr c 0, .ptr d 0] j (RET (aret []) (if lateF n role s < 0 then j.set ro (.cells PE (prC nb ts true lt ls)) else j.set p (.cells TE [I64 op, I64 (lateN n role inv s), .sl .nil 0 [], sl]))) := by
  cases role with
  | true => exact s_lateR n h2 h tn hnb s inv p a b c d hL op n0 sl hp hgp hlow
  | false => exact s_lateC n h1 h tn hnb s inv p a b c d hL op n0 sl hp hgp hlow
structure FI (n : Nms) (j : JH) (ro nb : Nat) (lt : Tok) (ls : List AV) (tn : TypeId) (I : IT) (F0 : FS) (k : Nat) (jj : JH) (s : FS) : Prop where
  hk : k ≤ ls.length
  hn : jj.next = j.next
  ht : jj.tnext = j.tnext
  hk2 : jj.tok = j.tok
  hP : PRd jj ro nb [] s.bad lt ls
  hb : gA jj ro nb (.cells tn n.enc)
  hL : Lates jj ro (I.items.drop k) (ls.drop k)
  hT : TRep s.v jj ro I
  hF : finS n (I.items.drop k) s = F0
  ho : ∀ o, o < j.next → o ≠ ro → o ∉ I.ids → jj.get o = j.get o
theorem s_Finish (n : Nms) (h1 : n.cs.length ≤ 1000000) (h2 : n.rs.length ≤ 1000000) {j : JH} {ro nb : Nat} {lt : Tok} {ls : List AV} {I : IT} {v : Nat → Int} {b : Bool} (h : PRd j ro nb [] b lt ls) (tn : TypeId) (hnb : gA j ro nb (.cells tn n.enc)) (htn : tn ≠ TE) (hL : Lates j ro I.items ls) (hT : TRep v j ro I) (hnd : I.ids.Nodup) (hll : ls.length ≤ 1000000) :
    JC Tryd.prog G 46 [.ptr ro 0] j (fun o J => o = .ret (aret []) ∧ ∃ j', J = ext j' [] ∧ PRd j' ro nb [] (finS n I.items ⟨v, b⟩).bad .nil [] ∧ TRep (finS n I.items ⟨v, b⟩).v j' ro I ∧ j'.next = j.next ∧ j'.tnext = j.tnext ∧ j'.tok = j.tok ∧ ∀ o, o < j.next → o ≠ ro → o ∉ I.ids → j'.get o = j.get o) := by
  have h0 := h
  obtain ⟨ho, hg, hn, hl⟩ := h
  have hlen := hL.len
  refine JC.run hmix c46 (by exact k46) ?_
  (try simp only[↓jr,jw,seval,ext_get_old,ext_set_old,ho,hg,set_get,set_set,ir46])
  refine JLOOP.of (σ := Nat × JH × FS) (fun s => FI n j ro nb lt ls tn I (finS n I.items ⟨v, b⟩) s.1 s.2.1 s.2.2) (fun s => ls.length - s.1)
    (fun s => [(9, I64 s.1), (8, I64 ls.length), (7, .sl lt ls.length ls), (0, .ptr ro 0)]) (fun s => ext s.2.1 []) (0, j, ⟨v, b⟩)
    ⟨Nat.zero_le _, rfl, rfl, rfl, h0, hnb, hL, hT, rfl, fun _ _ _ _ => rfl⟩ ?_ (JDropH.refl _) ?_
  · (try simp only[↓jr,jw,seval,ext_get_old,ext_set_old,ho,hg,set_get,set_set,DL])
    exact ⟨SubB.v, SubB.v, SubB.low hl, SubB.ptr (by unfold pid; omega)⟩
  rintro ⟨k, jj, s⟩ ⟨hk, hnx, htx, hkx, hP, hb, hL, hT, hF, hO⟩
  simp only at hk hnx htx hkx hP hb hL hT hF hO
  (try simp only[↓jr,jw,seval,ext_get_old,ext_set_old,set_get,set_set])
  refine wq.intro (fun g1 => ?_) (fun g1 => ?_)
  · have hlt : k < ls.length := by omega
    obtain ⟨av, r, hd⟩ : ∃ c_ l_, List.drop k ls = c_ :: l_ := ⟨_, _, List.drop_eq_getElem_cons hlt⟩
    have hd1 : List.drop (k + 1) ls = r := by rw [← List.drop_drop, hd]; rfl
    obtain ⟨⟨i, role, t, inv⟩, ir, hi⟩ : ∃ c_ l_, List.drop k I.items = c_ :: l_ := ⟨_, _, List.drop_eq_getElem_cons (by omega)⟩
    have hi1 : List.drop (k + 1) I.items = ir := by rw [← List.drop_drop, hi]; rfl
    have hmem : (i, role, t, inv) ∈ I.items := List.mem_of_mem_drop (hi ▸ List.mem_cons_self)
    have hid := IT.items_ids I _ hmem
    rw [hd, hi] at hL
    rw [hi] at hF
    simp only [finS] at hF
    have hL0 := hL.1
    have hLr := hL.2
    have hLx := hL0
    obtain ⟨a, b', c, d, put, rfl, _⟩ := hL0
    obtain ⟨op, sl, hg1, hlow⟩ := TRep.at I hid hT
    (try simp only[↓jr,jw,seval,ext_get_old,ext_set_old,set_get,set_set,hd])
    refine wc.intro ⟨by omega, by omega⟩ ?_
    (try simp only[↓jr,jw,seval,ext_get_old,ext_set_old,set_get,set_set,hd])
    unfold lateV
    (try simp only[↓jr,jw,seval,ext_get_old,ext_set_old,set_get,set_set,hd])
    refine wc.intro hb100 ?_
    (try simp only[↓jr,jw,seval,ext_get_old,ext_set_old,set_get,set_set])
    refine JCs.ret (s_late n h1 h2 (j := ext jj []) (hP.ex [] hP.hl) tn (by rw [ext_get_old hb.1]; exact hb.2.2) (ofL t) role inv i a b' c d (hLx.grow (Grow.ext (tb := 0))) op _ sl (by rw [ext_next]; unfold pid; have := hg1.1; simp; omega) (by rw [ext_get_old hg1.1]; exact hg1.2.2) (low_mono (by rw [ext_next]; unfold pid; omega) (Nat.le_refl _) _ hlow)) ?_
    by_cases hneg : lateF n role (ofL t) < 0
    · rw [if_pos hneg] at hF ⊢
      rw [ext_set_old hP.ho]
      (try simp only[↓jr,jw,seval,ext_get_old,ext_set_old,set_get,set_set])
      refine wc.intro (by unfold R64; omega) ?_
      (try simp only[↓jr,jw,seval,ext_get_old,ext_set_old,set_get,set_set])
      refine JNEXT.same (k + 1, jj.set ro (.cells PE (prC nb [] true lt ls)), ⟨s.v, true⟩) ⟨by simp only; omega, hnx, htx, hkx, ⟨hP.ho, by rw [set_get, if_pos rfl], hP.hn, hP.hl⟩, hb.grow (Grow.set (tb := 0)), ?_, TRep.grow (Grow.set (tb := 0)) I hT, ?_, ?_⟩ (by simp only; omega) ?_ rfl
      · simp only [hd1, hi1]; exact hLr.set
      · simp only [hi1]; exact hF
      · intro o ho1 ho2 ho3
        simp only [set_get, if_neg ho2]
        exact hO o ho1 ho2 ho3
      · (try simp only[↓jr,jw,seval,ext_get_old,ext_set_old,set_get,set_set,DL])
        exact ⟨SubB.v, SubB.v, SubB.low hP.hl, SubB.ptr (by have := hP.ho; unfold pid; omega)⟩
    · rw [if_neg hneg] at hF ⊢
      rw [ext_set_old hg1.1]
      (try simp only[↓jr,jw,seval,ext_get_old,ext_set_old,set_get,set_set])
      refine wc.intro (by unfold R64; omega) ?_
      (try simp only[↓jr,jw,seval,ext_get_old,ext_set_old,set_get,set_set])
      have u := upd_set (y := lateN n role inv (ofL t)) hg1
      refine JNEXT.same (k + 1, jj.set i (.cells TE [I64 op, I64 (lateN n role inv (ofL t)), .sl .nil 0 [], sl]), ⟨updV s.v i (lateN n role inv (ofL t)), s.bad⟩) ⟨by simp only; omega, hnx, htx, hkx, ⟨hP.ho, by rw [set_get, if_neg hg1.2.1.symm]; exact hP.hg, hP.hn, hP.hl⟩, hb.upd u htn, ?_, TRep.put hg1 I hnd hT, ?_, ?_⟩ (by simp only; omega) ?_ rfl
      · simp only [hd1, hi1]; exact hLr.upd u
      · simp only [hi1]; exact hF
      · intro o ho1 ho2 ho3
        have hoi : o ≠ i := fun e => ho3 (e ▸ hid)
        simp only [set_get, if_neg hoi]
        exact hO o ho1 ho2 ho3
      · (try simp only[↓jr,jw,seval,ext_get_old,ext_set_old,set_get,set_set,DL])
        exact ⟨SubB.v, SubB.v, SubB.low hP.hl, SubB.ptr (by have := hP.ho; unfold pid; omega)⟩
  · have hk' : k = ls.length := by omega
    subst hk'
    rw [List.drop_eq_nil_of_le (by omega)] at hF
    simp only [finS] at hF
    subst hF
    obtain ⟨ho', hg', hn', hl'⟩ := hP
    (try simp only[↓jr,jw,seval,ext_get_old,ext_set_old,set_get,set_set,ho',hg'])
    refine JFIN.same (SubB.pure rfl) ⟨rfl, _, rfl, ⟨ho', by rw [set_get, if_pos rfl]; rfl, hn', rfl⟩, TRep.grow (Grow.set (tb := 0)) I hT, hnx, htx, hkx, ?_⟩
    intro o ho1 ho2 ho3
    rw [set_get, if_neg ho2]
    exact hO o ho1 ho2 ho3
end
end Go.Proofs.YtcajjicdbphkpaaDoor.Pg
