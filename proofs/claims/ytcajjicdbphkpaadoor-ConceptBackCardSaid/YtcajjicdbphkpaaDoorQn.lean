/-
  The program's reader: late names, roles.
-/
import Derived.Test.YtcajjicdbphkpaaDoorQm
set_option linter.unusedVariables false
set_option linter.unusedSimpArgs false
set_option maxRecDepth 100000
set_option maxHeartbeats 8000000
namespace Go.Proofs.YtcajjicdbphkpaaDoor.Pg
open Go
section
variable {m : Int} {G : Nat → Option (List AV)}
theorem CanA.push {tb : Nat} {j : JH} {tok : Tok} {n F : Nat} (h : CanA tb j tok n) : CanA tb (j.pushTok F) tok n := by
  obtain ⟨hb, h⟩ := h
  refine ⟨Nat.le_succ_of_le hb, ?_⟩
  rcases h with h | ⟨t, h0, h1, h2, h3⟩
  · exact .inl h
  · refine .inr ⟨t, h0, Nat.lt_succ_of_lt h1, h2, ?_⟩
    show (if t = j.tnext then some F else j.tok t) = _
    rw [if_neg (by omega)]; exact h3
theorem pr_same {x y : Bool} {t u : Option Nat} {h a b : JH} {l : List AObj} (e1 : b.next = a.next) (e2 : b.get = a.get) : pair2 ⟨x, t, h, h⟩ ⟨y, u, ext a l, ext b l⟩ := by
  intro _ _
  refine ⟨fun ob _ => ?_, fun q => absurd rfl q, fun q => absurd rfl q⟩
  unfold ext; simp only [e1, e2]
theorem s_Look {tb : Nat} {j : JH} {ro nb : Nat} {ts : List (List UInt8)} {b : Bool} {lt : Tok} {ls : List AV} (h : PRd j ro nb ts b lt ls) (hc : CanA tb j lt ls.length) (hll : ls.length ≤ 1000000) (s : ByteArray) (sel : FuncId) (put : AV) (hput : put.known = true ∧ put.cells = [put]) :
    JC Tryd.prog G 74 [.ptr ro 0, STR s, .fn (.func sel) [] [], put] j (fun o j' => o = .ret (aret []) ∧ ∃ lt', PRd j' ro nb ts b lt' (ls ++ [lateV (pid j.next 2) (pid j.next 0) (pid j.next 1) (pid j.next 3)]) ∧ CanA tb j' lt' (ls.length + 1) ∧ Grow ro tb j j' ∧ j'.next = pid j.next 4 ∧
      j'.get (pid j.next 0) = some (.cells 67 [.ptr ro 0]) ∧ j'.get (pid j.next 1) = some (.cells 9 [STR s]) ∧ j'.get (pid j.next 2) = some (.cells 106 [.fn (.func sel) [] []]) ∧ j'.get (pid j.next 3) = some (.cells 104 [put])) := by
  obtain ⟨ho, hg, hn, hl⟩ := h
  obtain ⟨hp1, hp2⟩ := hput
  refine JC.run hmix c74 (by exact k74) ?_
  (try simp only[↓jr,jw,seval,ext_get_old,ext_set_old,ho,hg,set_get,set_set,List.map_cons,List.drop_zero,slc_tail',List.length_cons,List.length_nil,hp1,hp2,ir74])
  refine JAPP.any hc.push (by simp) rfl rfl (by omega) (by omega) ?_
  intro tok1 j1 hcan e1 e2 e3 e9
  have htb := hc.1
  have hg1 : j1.get ro = some (.cells PE (prC nb ts b lt ls)) := by rw [e2]; exact hg
  have ho1 : ro < j1.next := by rw [e1]; exact ho
  have e1' : j1.next = j.next := e1
  have e3' : j.tnext + 1 ≤ j1.tnext := e3
  (try simp only[↓jr,jw,seval,ext_get_old,ext_set_old,ho,hg,set_get,set_set,List.map_cons,List.drop_zero,slc_tail',List.length_cons,List.length_nil,hp1,hp2,hg1,ho1])
  refine JDRAW.oc (by (try simp only[↓jr,jw,seval,ext_get_old,ext_set_old,ho,hg,set_get,set_set,List.map_cons,List.drop_zero,slc_tail',List.length_cons,List.length_nil,hp1,hp2,jq,qe2,qe3,hg1,ho1,e1',ext_next,ext_tnext,pushTok_next,List.length_cons,List.length_nil]) <;> (have h3 := @pushTok_tnext j 1; repeat' (first | exact trivial | exact pr_same e1 e2 | refine And.intro ?_ ?_ | exact Nat.le_refl _ | omega | (unfold pid; omega)))) ?_
  (try simp only[↓jr,jw,seval,ext_get_old,ext_set_old,ho,hg,set_get,set_set,List.map_cons,List.drop_zero,slc_tail',List.length_cons,List.length_nil,hp1,hp2,hg1,ho1])
  have hls : AV.lows j.next j.tnext ls = true := lows_of_sl hl (fun q => by
    rcases hc with ⟨_, ⟨_, e⟩ | ⟨t, _, _, e, _⟩⟩
    · exact List.eq_nil_of_length_eq_zero e
    · rw [q] at e; cases e)
  have hnx : (ext (j1.set ro (.cells PE (prC nb ts b tok1 (ls ++ [lateV (pid j.next 2) (pid j.next 0) (pid j.next 1) (pid j.next 3)])))) [.cells 67 [.ptr ro 0], .cells 9 [STR s], .cells 106 [.fn (.func sel) [] []], .cells 104 [put]]).next = pid j.next 4 := by
    rw [ext_next, set_next, e1']; rfl
  have gt : ∀ k : Nat, k < 4 → (ext (j1.set ro (.cells PE (prC nb ts b tok1 (ls ++ [lateV (pid j.next 2) (pid j.next 0) (pid j.next 1) (pid j.next 3)])))) [.cells 67 [.ptr ro 0], .cells 9 [STR s], .cells 106 [.fn (.func sel) [] []], .cells 104 [put]]).get (pid j.next k) = [AObj.cells 67 [.ptr ro 0], .cells 9 [STR s], .cells 106 [.fn (.func sel) [] []], .cells 104 [put]][k]? := by
    intro k hk
    have e : (j1.set ro (.cells PE (prC nb ts b tok1 (ls ++ [lateV (pid j.next 2) (pid j.next 0) (pid j.next 1) (pid j.next 3)])))).next = j.next := e1'
    unfold ext
    simp only [e]
    rw [if_neg (by unfold pid; omega)]
    unfold pid; rw [show j.next + k - j.next = k by omega]
  have e4 : (ls ++ [lateV (pid j.next 2) (pid j.next 0) (pid j.next 1) (pid j.next 3)]).length = ls.length + 1 := by simp
  have hfin : ∀ J, J = ext (j1.set ro (.cells PE (prC nb ts b tok1 (ls ++ [lateV (pid j.next 2) (pid j.next 0) (pid j.next 1) (pid j.next 3)])))) [.cells 67 [.ptr ro 0], .cells 9 [STR s], .cells 106 [.fn (.func sel) [] []], .cells 104 [put]] →
      @JFIN (ext j []) J (.tup []) ⟨fun y j' => (fun o j' => o = .ret (aret []) ∧ ∃ lt', PRd j' ro nb ts b lt' (ls ++ [lateV (pid j.next 2) (pid j.next 0) (pid j.next 1) (pid j.next 3)]) ∧ CanA tb j' lt' (ls.length + 1) ∧ Grow ro tb j j' ∧ j'.next = pid j.next 4 ∧
      j'.get (pid j.next 0) = some (.cells 67 [.ptr ro 0]) ∧ j'.get (pid j.next 1) = some (.cells 9 [STR s]) ∧ j'.get (pid j.next 2) = some (.cells 106 [.fn (.func sel) [] []]) ∧ j'.get (pid j.next 3) = some (.cells 104 [put])) (AOut.ret y) j'⟩ := by
    rintro J rfl
    refine JFIN.same (SubB.pure rfl) ⟨rfl, tok1, ⟨?_, ?_, ?_, ?_⟩, ?_, ⟨?_, ?_, ?_, ?_⟩, hnx, gt 0 (by omega), gt 1 (by omega), gt 2 (by omega), gt 3 (by omega)⟩
    · rw [hnx]; unfold pid; omega
    · rw [ext_get_old (by rw [set_next]; exact ho1), set_get, if_pos rfl]
    · rw [hnx]; unfold pid; omega
    · rw [hnx, ext_tnext, set_tnext]
      rcases hcan with ⟨_, ⟨_, e⟩ | ⟨t, _, ht, rfl, _⟩⟩
      · omega
      · simp only [AV.low, Bool.and_eq_true, decide_eq_true_eq]
        refine ⟨ht, lows_append (lows_mono (show j.next ≤ pid j.next 4 by unfold pid; omega) (show j.tnext ≤ j1.tnext by omega) _ hls) ?_⟩
        simp [AV.lows, AV.low, pid_lt]
    · refine ⟨hcan.1, ?_⟩
      rcases hcan with ⟨_, ⟨_, e⟩ | ⟨t, h0, ht, rfl, e⟩⟩
      · omega
      · exact .inr ⟨t, h0, ht, rfl, e⟩
    · rw [hnx]; unfold pid; omega
    · rw [ext_tnext, set_tnext]; omega
    · intro o ho2 hne
      rw [ext_get_old (by rw [set_next, e1']; exact ho2), set_get, if_neg hne, e2]; rfl
    · intro t ht
      rw [ext_tok, set_tok, e9 t ht]
      show (if t = j.tnext then some 1 else j.tok t) = _
      rw [if_neg (by omega)]
  refine hfin _ ?_
  simp only [prC, e4]
end
end Go.Proofs.YtcajjicdbphkpaaDoor.Pg
