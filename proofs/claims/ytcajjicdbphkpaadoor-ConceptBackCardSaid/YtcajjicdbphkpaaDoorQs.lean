/-
  The program's reader: a late name.
-/
import Derived.Test.YtcajjicdbphkpaaDoorQr
set_option linter.unusedVariables false
set_option linter.unusedSimpArgs false
set_option maxRecDepth 100000
set_option maxHeartbeats 8000000
namespace Go.Proofs.YtcajjicdbphkpaaDoor.Pg
open Go
section
variable {m : Int} {G : Nat → Option (List AV)}
def lateN (n : Nms) (role inv : Bool) (s : ByteArray) : Int := if role then 2 * findS n.rs s + (if inv then 1 else 0) else findS n.cs s
def lateF (n : Nms) (role : Bool) (s : ByteArray) : Int := if role then findS n.rs s else findS n.cs s
theorem s_lateC (n : Nms) (h1 : n.cs.length ≤ 1000000) {j : JH} {ro nb : Nat} {ts : List (List UInt8)} {bb : Bool} {lt : Tok} {ls : List AV} (h : PRd j ro nb ts bb lt ls) (tn : TypeId) (hnb : j.get nb = some (.cells tn n.enc)) (s : ByteArray) (inv : Bool) (p : Nat) (a b c d : Nat)
    (hL : Late j ro false s inv p (lateV a b c d)) (op n0 : Int) (sl : AV) (hp : p < j.next) (hgp : j.get p = some (.cells TE [I64 op, I64 n0, .sl .nil 0 [], sl])) (hlow : AV.low j.next j.tnext sl = true) :
    JC Tryd.prog G 100 [.ptr a 0, .ptr b 0, .ptr c 0, .ptr d 0] j (RET (aret []) (if lateF n false s < 0 then j.set ro (.cells PE (prC nb ts true lt ls)) else j.set p (.cells TE [I64 op, I64 (lateN n false inv s), .sl .nil 0 [], sl]))) := by
  obtain ⟨a', b', c', d', put, e, ga, gb, gc, gd, gp⟩ := hL
  simp only [lateV, AV.fn.injEq, List.cons.injEq, AV.ptr.injEq, and_true, true_and] at e
  obtain ⟨rfl, rfl, rfl, rfl⟩ := e
  unfold Put at gp
  rw [if_neg (by decide)] at gp
  obtain ⟨t, rfl, gt⟩ := gp
  rw [if_neg (by decide)] at ga
  obtain ⟨ha1, ha2, ha3⟩ := ga
  obtain ⟨hb1, hb2, hb3⟩ := gb
  obtain ⟨hc1, hc2, hc3⟩ := gc
  obtain ⟨hd1, hd2, hd3⟩ := gd
  obtain ⟨ht1, ht2, ht3⟩ := gt
  obtain ⟨ho, hg, hn, hl⟩ := h
  refine JC.run hmix c100 (by exact k100) ?_
  (try simp only[↓jr,jw,seval,ext_get_old,ext_set_old,ho,hg,set_get,set_set,ha1,ha3,hb1,hb3,hc1,hc3,hd1,hd3,ir100])
  refine wc.intro hb43 ?_
  (try simp only[↓jr,jw,seval,ext_get_old,ext_set_old,ho,hg,set_get,set_set,ha1,ha3,hb1,hb3,hc1,hc3,hd1,hd3])
  refine JDC.use (s_names2 n nb _ tn (by rw [ext_next]; unfold pid; simp; omega) (by rw [ext_get_old hn]; exact hnb)) ?_
  (try simp only[↓jr,jw,seval,ext_get_old,ext_set_old,ho,hg,set_get,set_set,ha1,ha3,hb1,hb3,hc1,hc3,hd1,hd3])
  refine wc.intro hb76 ?_
  (try simp only[↓jr,jw,seval,ext_get_old,ext_set_old,ho,hg,set_get,set_set,ha1,ha3,hb1,hb3,hc1,hc3,hd1,hd3])
  refine JDC.use (s_selC n _) ?_
  (try simp only[↓jr,jw,seval,ext_get_old,ext_set_old,ho,hg,set_get,set_set,ha1,ha3,hb1,hb3,hc1,hc3,hd1,hd3])
  refine JDC.use (s_sIndex n.cs s .none _ (by omega)) ?_
  (try simp only[↓jr,jw,seval,ext_get_old,ext_set_old,ho,hg,set_get,set_set,ha1,ha3,hb1,hb3,hc1,hc3,hd1,hd3])
  refine JDRAW.oc (by (try simp only[↓jr,jw,seval,ext_get_old,ext_set_old,ho,hg,set_get,set_set,ha1,ha3,hb1,hb3,hc1,hc3,hd1,hd3,jq]) <;> exact orq) ?_; (try simp only[↓jr,jw,seval,ext_get_old,ext_set_old,ho,hg,set_get,set_set,ha1,ha3,hb1,hb3,hc1,hc3,hd1,hd3])
  refine wq.intro (fun q => ?_) (fun q => ?_)
  · (try simp only[↓jr,jw,seval,ext_get_old,ext_set_old,ho,hg,set_get,set_set,ha1,ha3,hb1,hb3,hc1,hc3,hd1,hd3])
    have e : lateF n false s < 0 := q
    rw [if_pos e]
    exact JFIN.ret (p1 ho hn hl) (SubB.pure rfl)
  · (try simp only[↓jr,jw,seval,ext_get_old,ext_set_old,ho,hg,set_get,set_set,ha1,ha3,hb1,hb3,hc1,hc3,hd1,hd3])
    have e : ¬ lateF n false s < 0 := q
    rw [if_neg e]
    refine wc.intro hb77 ?_
    (try simp only[↓jr,jw,seval,ext_get_old,ext_set_old,ho,hg,set_get,set_set,ha1,ha3,hb1,hb3,hc1,hc3,hd1,hd3])
    refine JCs.ret (s_put3 _ n0 op t p (ext j []) _ sl (by rw [ext_next]; unfold pid; simp; omega) (by rw [ext_next]; unfold pid; simp; omega) (by rw [ext_get_old ht1]; exact ht3) (by rw [ext_get_old hp]; exact hgp) (by rw [ext_next, ext_tnext]; exact hlow)) ?_
    (try simp only[↓jr,jw,seval,ext_get_old,ext_set_old,ho,hg,set_get,set_set,ha1,ha3,hb1,hb3,hc1,hc3,hd1,hd3,hp])
    exact JFIN.ret (JDropH.back1 (TokExt.refl _) hp (OSub.low (by simp only [AV.lows, AV.low, hlow, Bool.and_self]))).of_ext (SubB.pure rfl)
theorem s_lateR (n : Nms) (h1 : n.rs.length ≤ 1000000) {j : JH} {ro nb : Nat} {ts : List (List UInt8)} {bb : Bool} {lt : Tok} {ls : List AV} (h : PRd j ro nb ts bb lt ls) (tn : TypeId) (hnb : j.get nb = some (.cells tn n.enc)) (s : ByteArray) (inv : Bool) (p : Nat) (a b c d : Nat)
    (hL : Late j ro true s inv p (lateV a b c d)) (op n0 : Int) (sl : AV) (hp : p < j.next) (hgp : j.get p = some (.cells TE [I64 op, I64 n0, .sl .nil 0 [], sl])) (hlow : AV.low j.next j.tnext sl = true) :
    JC Tryd.prog G 100 [.ptr a 0, .ptr b 0, .ptr c 0, .ptr d 0] j (RET (aret []) (if lateF n true s < 0 then j.set ro (.cells PE (prC nb ts true lt ls)) else j.set p (.cells TE [I64 op, I64 (lateN n true inv s), .sl .nil 0 [], sl]))) := by
  obtain ⟨a', b', c', d', put, e, ga, gb, gc, gd, gp⟩ := hL
  simp only [lateV, AV.fn.injEq, List.cons.injEq, AV.ptr.injEq, and_true, true_and] at e
  obtain ⟨rfl, rfl, rfl, rfl⟩ := e
  unfold Put at gp
  rw [if_pos rfl] at gp
  obtain ⟨e1, g1, t, rfl, ge, gg, gt⟩ := gp
  rw [if_pos rfl] at ga
  obtain ⟨he1, he2, he3⟩ := ge
  obtain ⟨hg1, hg2, hg3⟩ := gg
  obtain ⟨ha1, ha2, ha3⟩ := ga
  obtain ⟨hb1, hb2, hb3⟩ := gb
  obtain ⟨hc1, hc2, hc3⟩ := gc
  obtain ⟨hd1, hd2, hd3⟩ := gd
  obtain ⟨ht1, ht2, ht3⟩ := gt
  obtain ⟨ho, hg, hn, hl⟩ := h
  refine JC.run hmix c100 (by exact k100) ?_
  (try simp only[↓jr,jw,seval,ext_get_old,ext_set_old,ho,hg,set_get,set_set,ha1,ha3,hb1,hb3,hc1,hc3,hd1,hd3,ir100])
  refine wc.intro hb43 ?_
  (try simp only[↓jr,jw,seval,ext_get_old,ext_set_old,ho,hg,set_get,set_set,ha1,ha3,hb1,hb3,hc1,hc3,hd1,hd3])
  refine JDC.use (s_names2 n nb _ tn (by rw [ext_next]; unfold pid; simp; omega) (by rw [ext_get_old hn]; exact hnb)) ?_
  (try simp only[↓jr,jw,seval,ext_get_old,ext_set_old,ho,hg,set_get,set_set,ha1,ha3,hb1,hb3,hc1,hc3,hd1,hd3])
  refine wc.intro hb98 ?_
  (try simp only[↓jr,jw,seval,ext_get_old,ext_set_old,ho,hg,set_get,set_set,ha1,ha3,hb1,hb3,hc1,hc3,hd1,hd3])
  refine JDC.use (s_selR n _) ?_
  (try simp only[↓jr,jw,seval,ext_get_old,ext_set_old,ho,hg,set_get,set_set,ha1,ha3,hb1,hb3,hc1,hc3,hd1,hd3])
  refine JDC.use (s_sIndex n.rs s .none _ (by omega)) ?_
  (try simp only[↓jr,jw,seval,ext_get_old,ext_set_old,ho,hg,set_get,set_set,ha1,ha3,hb1,hb3,hc1,hc3,hd1,hd3])
  refine JDRAW.oc (by (try simp only[↓jr,jw,seval,ext_get_old,ext_set_old,ho,hg,set_get,set_set,ha1,ha3,hb1,hb3,hc1,hc3,hd1,hd3,jq]) <;> exact orq) ?_; (try simp only[↓jr,jw,seval,ext_get_old,ext_set_old,ho,hg,set_get,set_set,ha1,ha3,hb1,hb3,hc1,hc3,hd1,hd3])
  refine wq.intro (fun q => ?_) (fun q => ?_)
  · (try simp only[↓jr,jw,seval,ext_get_old,ext_set_old,ho,hg,set_get,set_set,ha1,ha3,hb1,hb3,hc1,hc3,hd1,hd3])
    have e : lateF n true s < 0 := q
    rw [if_pos e]
    exact JFIN.ret (p1 ho hn hl) (SubB.pure rfl)
  · (try simp only[↓jr,jw,seval,ext_get_old,ext_set_old,ho,hg,set_get,set_set,ha1,ha3,hb1,hb3,hc1,hc3,hd1,hd3])
    have e : ¬ lateF n true s < 0 := q
    rw [if_neg e]
    refine wc.intro hb99 ?_
    (try simp only[↓jr,jw,seval,ext_get_old,ext_set_old,ho,hg,set_get,set_set,ha1,ha3,hb1,hb3,hc1,hc3,hd1,hd3])
    have hlt := findS_lt n.rs s
    refine JCs.ret (s_put2 _ n0 op inv e1 g1 t p (ext j []) _ _ _ sl (by have : ¬ findS n.rs s < 0 := q; omega) (by omega) (by rw [ext_next]; unfold pid; simp; omega) (by rw [ext_next]; unfold pid; simp; omega) (by rw [ext_next]; unfold pid; simp; omega) (by rw [ext_next]; unfold pid; simp; omega) (by rw [ext_get_old he1]; exact he3) (by rw [ext_get_old hg1]; exact hg3) (by rw [ext_get_old ht1]; exact ht3) (by rw [ext_get_old hp]; exact hgp) (by rw [ext_next, ext_tnext]; exact hlow)) ?_
    (try simp only[↓jr,jw,seval,ext_get_old,ext_set_old,ho,hg,set_get,set_set,ha1,ha3,hb1,hb3,hc1,hc3,hd1,hd3,hp])
    exact JFIN.ret (JDropH.back1 (TokExt.refl _) hp (OSub.low (by simp only [AV.lows, AV.low, hlow, Bool.and_self]))).of_ext (SubB.pure rfl)
end
end Go.Proofs.YtcajjicdbphkpaaDoor.Pg
