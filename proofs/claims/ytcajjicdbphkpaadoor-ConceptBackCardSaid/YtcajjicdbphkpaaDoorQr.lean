/-
  The program's reader: the late names are looked up.
-/
import Derived.Test.YtcajjicdbphkpaaDoorQq
set_option linter.unusedVariables false
set_option linter.unusedSimpArgs false
set_option maxRecDepth 100000
set_option maxHeartbeats 8000000
namespace Go.Proofs.YtcajjicdbphkpaaDoor.Pg
open Go
section
variable {m : Int} {G : Nat → Option (List AV)}
theorem s_sIndex (l : List ByteArray) (s : ByteArray) (tok : Tok) (j : JH) (hl : l.length < 4611686018427387904) : JC Tryd.prog G 101 [.sl tok l.length (strs l), STR s] j (RET (I64 (findS l s)) j) := by
  refine JC.run hmix c101 (by exact k101) ?_
  (try simp only[↓jr,jw,seval,ir101])
  refine JLOOP.of (σ := Nat) (fun k => k ≤ l.length ∧ findS l s = if findS (l.drop k) s = -1 then -1 else findS (l.drop k) s + k) (fun k => l.length - k)
      (fun k => [(8, I64 k), (7, I64 l.length), (0, .sl .none l.length (strs l)), (1, STR s)]) (fun k => ext j []) 0 ⟨by omega, by simp⟩ ?_ (JDropH.refl _) ?_
  · (try simp only[↓jr,jw,seval,DL])
    exact ⟨SubB.v, SubB.v, SubB.sl rfl (SubBs.pure (strs_pur _)), SubB.v⟩
  · rintro k ⟨hk, hI⟩
    (try simp only[↓jr,jw,seval])
    refine wq.intro (fun h1 => ?_) (fun h1 => ?_)
    · have hlt : k < (l).length := by omega
      obtain ⟨t, r, hd⟩ : ∃ c_ l_, List.drop k (l) = c_ :: l_ := ⟨_, _, List.drop_eq_getElem_cons hlt⟩
      have hd1 : List.drop (k + 1) (l) = r := by rw [← List.drop_drop, hd]; rfl
      have hmem : t ∈ l := List.mem_of_mem_drop (hd ▸ List.mem_cons_self)
      (try simp only[↓jr,jw,seval,hd])
      rw [hd] at hI
      simp only [findS] at hI
      refine wc.intro (by omega) ?_
      (try simp only[↓jr,jw,seval,hd])
      refine wq.intro (fun h2 => ?_) (fun h2 => ?_)
      · (try simp only[↓jr,jw,seval])
        refine JFIN.rb ?_
        simp [h2] at hI
        rw [h2, hI]; exact SubB.v
      · (try simp only[↓jr,jw,seval])
        refine wc.intro (R64_add hlt hl) ?_
        (try simp only[↓jr,jw,seval])
        refine JNEXT.of (k + 1) ⟨by omega, ?_⟩ (by omega) ?_ (JDropH.refl _)
        · rw [hd1, hI]
          have := findS_ge r s
          by_cases h3 : findS r s = -1
          · simp [h2, h3]
          · simp only [h2, if_false, h3]
            split <;> omega
        · (try simp only[↓jr,jw,seval,DL])
          exact ⟨SubB.eqj (by omega), SubB.v, SubB.sl rfl (SubBs.pure (strs_pur _)), SubB.v⟩
    · (try simp only[↓jr,jw,seval])
      refine JFIN.rb ?_
      rw [List.drop_eq_nil_of_le (by omega)] at hI
      simp only [findS, if_true] at hI
      rw [hI]; exact SubB.v
/-- The names of a kind. -/
theorem s_selC (n : Nms) (j : JH) : JC Tryd.prog G 76 [.agg n.enc] j (RET (.sl .none n.cs.length (strs n.cs)) j) := by
  refine JC.run hmix c76 (by exact k76) ?_
  (try simp only[↓jr,jw,seval,ir76])
  refine JFIN.rb ?_
  exact SubB.sl rfl (SubBs.pure (strs_pur _))
theorem s_selR (n : Nms) (j : JH) : JC Tryd.prog G 98 [.agg n.enc] j (RET (.sl .none n.rs.length (strs n.rs)) j) := by
  refine JC.run hmix c98 (by exact k98) ?_
  (try simp only[↓jr,jw,seval,ir98])
  refine JFIN.rb ?_
  exact SubB.sl rfl (SubBs.pure (strs_pur _))
theorem s_names2 (n : Nms) (nb : Nat) (j : JH) (t : TypeId) (hb : nb < j.next) (hg : j.get nb = some (.cells t n.enc)) : JC Tryd.prog G 43 [.ptr nb 0] j (RET (.agg n.enc) j) := by
  refine JC.run hmix c43 (by exact k43) ?_
  (try simp only[↓jr,jw,seval,ext_get_old,hb,hg,ir43])
  refine JFIN.rb ?_
  exact SubB.agg (SubBs.pure (Nms.pur _))
theorem s_put1 (x n op : Int) (t p : Nat) (j : JH) (tt : TypeId) (sl : AV) (ht : t < j.next) (hp : p < j.next) (hgt : j.get t = some (.cells tt [.ptr p 0])) (hgp : j.get p = some (.cells TE [I64 op, I64 n, .sl .nil 0 [], sl])) (hlow : AV.low j.next j.tnext sl = true) :
    JC Tryd.prog G 73 [I64 x, .ptr t 0] j (RET (aret []) (j.set p (.cells TE [I64 op, I64 x, .sl .nil 0 [], sl]))) := by
  refine JC.run hmix c73 (by exact k73) ?_
  (try simp only[↓jr,jw,seval,ext_get_old,ext_set_old,ht,hp,hgt,hgp,set_get,set_set,ir73])
  exact JFIN.ret (JDropH.back1 (TokExt.refl _) hp (OSub.low (by simp only [AV.lows, AV.low, hlow, Bool.and_self]))).of_ext (SubB.pure rfl)
theorem s_put3 (x n op : Int) (t p : Nat) (j : JH) (tt : TypeId) (sl : AV) (ht : t < j.next) (hp : p < j.next) (hgt : j.get t = some (.cells tt [.ptr p 0])) (hgp : j.get p = some (.cells TE [I64 op, I64 n, .sl .nil 0 [], sl])) (hlow : AV.low j.next j.tnext sl = true) :
    JC Tryd.prog G 77 [I64 x, .ptr t 0] j (RET (aret []) (j.set p (.cells TE [I64 op, I64 x, .sl .nil 0 [], sl]))) := by
  refine JC.run hmix c77 (by exact k77) ?_
  (try simp only[↓jr,jw,seval,ext_get_old,ext_set_old,ht,hp,hgt,hgp,set_get,set_set,ir77])
  exact JFIN.ret (JDropH.back1 (TokExt.refl _) hp (OSub.low (by simp only [AV.lows, AV.low, hlow, Bool.and_self]))).of_ext (SubB.pure rfl)
theorem hb73 : hasBody Tryd.prog 73 = true := by decide +kernel
theorem hb77 : hasBody Tryd.prog 77 = true := by decide +kernel
theorem hb99 : hasBody Tryd.prog 99 = true := by decide +kernel
theorem hb100 : hasBody Tryd.prog 100 = true := by decide +kernel
theorem hb43 : hasBody Tryd.prog 43 = true := by decide +kernel
theorem hb76 : hasBody Tryd.prog 76 = true := by decide +kernel
theorem hb98 : hasBody Tryd.prog 98 = true := by decide +kernel
theorem s_put2 (x n op : Int) (inv : Bool) (e g t p : Nat) (j : JH) (t1 t2 tt : TypeId) (sl : AV) (hx0 : 0 ≤ x) (hx : x ≤ 1000000) (he : e < j.next) (hg : g < j.next) (ht : t < j.next) (hp : p < j.next) (hge : j.get e = some (.cells t1 [.fn (.func 73) [] [.ptr t 0]])) (hgg : j.get g = some (.cells t2 [intV inv])) (hgt : j.get t = some (.cells tt [.ptr p 0])) (hgp : j.get p = some (.cells TE [I64 op, I64 n, .sl .nil 0 [], sl])) (hlow : AV.low j.next j.tnext sl = true) :
    JC Tryd.prog G 99 [I64 x, .ptr e 0, .ptr g 0] j (RET (aret []) (j.set p (.cells TE [I64 op, I64 (2 * x + (if inv then 1 else 0)), .sl .nil 0 [], sl]))) := by
  refine JC.run hmix c99 (by exact k99) ?_
  (try simp only[↓jr,jw,seval,ext_get_old,ext_set_old,he,hg,ht,hp,hge,hgg,hgt,hgp,set_get,set_set,ir99])
  refine wr.in (by unfold R64; omega) ?_
  (try simp only[↓jr,jw,seval,ext_get_old,ext_set_old,he,hg,ht,hp,hge,hgg,hgt,hgp,set_get,set_set])
  refine wc.intro (by unfold R64; split <;> omega) ?_
  (try simp only[↓jr,jw,seval,ext_get_old,ext_set_old,he,hg,ht,hp,hge,hgg,hgt,hgp,set_get,set_set])
  refine wc.intro hb73 ?_
  (try simp only[↓jr,jw,seval,ext_get_old,ext_set_old,he,hg,ht,hp,hge,hgg,hgt,hgp,set_get,set_set])
  refine JCs.ret (s_put1 _ n op t p (ext j []) tt sl (by rw [ext_next]; unfold pid; simp; omega) (by rw [ext_next]; unfold pid; simp; omega) (by rw [ext_get_old ht]; exact hgt) (by rw [ext_get_old hp]; exact hgp) (by rw [ext_next, ext_tnext]; exact hlow)) ?_
  (try simp only[↓jr,jw,seval,ext_get_old,ext_set_old,he,hg,ht,hp,hge,hgg,hgt,hgp,set_get,set_set])
  exact JFIN.ret (JDropH.back1 (TokExt.refl _) hp (OSub.low (by simp only [AV.lows, AV.low, hlow, Bool.and_self]))).of_ext (SubB.pure rfl)
end
end Go.Proofs.YtcajjicdbphkpaaDoor.Pg
