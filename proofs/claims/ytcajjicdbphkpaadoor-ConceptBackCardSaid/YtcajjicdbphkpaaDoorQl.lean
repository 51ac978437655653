/-
  The program's reader: its parts.
-/
import Derived.Test.YtcajjicdbphkpaaDoorQk
set_option linter.unusedVariables false
set_option linter.unusedSimpArgs false
set_option maxRecDepth 100000
set_option maxHeartbeats 8000000
namespace Go.Proofs.YtcajjicdbphkpaaDoor.Pg
open Go
def PAN (Y : AV) (J : JH) : AOut → JH → Prop := fun o j' => o = .pan Y ∧ j' = J
theorem JCs.pan {P : Program} {G : Nat → Option (List AV)} {j : JH} {f : FuncId} {args : List AV} {Y : AV} {J : JH} {K : AOut → JH → Prop} (h : JC P G f args j (PAN Y J)) (k : K (.pan Y) J) : @JCs P G f args j ⟨K⟩ :=
  JC.mono h (by rintro _ _ ⟨rfl, rfl⟩; exact k)
mutual
theorem low_pure {no nt : Nat} : ∀ (x : AV), AV.pure x = true → AV.low no nt x = true
  | .v _, _ => rfl
  | .any, _ => rfl
  | .ptr _ _, h => by simp [AV.pure] at h
  | .arr _ _ _, h => by simp [AV.pure] at h
  | .mp _, h => by simp [AV.pure] at h
  | .yld _, h => by simp [AV.pure] at h
  | .cptr cs, h => by simp only [AV.low]; exact lows_pure cs (by simpa [AV.pure] using h)
  | .sl .nil _ cs, h => rfl
  | .sl .none _ cs, h => by simp only [AV.low]; exact lows_pure cs (by simpa [AV.pure] using h)
  | .sl (.own _ _ _) _ cs, h => by simp [AV.pure] at h
  | .fn _ a b, h => by
    simp only [AV.pure, Bool.and_eq_true] at h
    simp only [AV.low, Bool.and_eq_true]; exact ⟨lows_pure a h.1, lows_pure b h.2⟩
  | .ifc _ x, h => by simp only [AV.low]; exact low_pure x (by simpa [AV.pure] using h)
  | .agg cs, h => by simp only [AV.low]; exact lows_pure cs (by simpa [AV.pure] using h)
  | .tup cs, h => by simp only [AV.low]; exact lows_pure cs (by simpa [AV.pure] using h)
theorem lows_pure {no nt : Nat} : ∀ (xs : List AV), AV.pures xs = true → AV.lows no nt xs = true
  | [], _ => rfl
  | x :: xs, h => by
    simp only [AV.pures, Bool.and_eq_true] at h
    simp only [AV.lows, Bool.and_eq_true]; exact ⟨low_pure x h.1, lows_pure xs h.2⟩
end
theorem SubBs.low {no nt : Nat} : ∀ {xs : List AV}, AV.lows no nt xs = true → SubBs no nt xs xs
  | [], _ => True.intro
  | x :: xs, h => by
    simp only [AV.lows, Bool.and_eq_true] at h
    exact ⟨SubB.low h.1, SubBs.low h.2⟩
theorem OSub.low {no nt : Nat} {t : TypeId} {cs : List AV} (p : AV.lows no nt cs = true) : OSub no nt (.cells t cs) (.cells t cs) := ⟨rfl, SubBs.low p⟩
abbrev PE : TypeId := 76
abbrev TE : TypeId := 101
abbrev prC (nb : Nat) (ts : List (List UInt8)) (b : Bool) (lt : Tok) (ls : List AV) : List AV := [.fn (.func 43) [] [.ptr nb 0], .sl .none ts.length (strs (ts.map ofL)), BOO b, .sl lt ls.length ls]
theorem prC_low {no nt nb : Nat} {ts : List (List UInt8)} {b : Bool} {lt : Tok} {ls : List AV} (h1 : nb < no) (h2 : AV.low no nt (.sl lt ls.length ls) = true) : AV.lows no nt (prC nb ts b lt ls) = true := by
  have h3 := lows_pure (no := no) (nt := nt) _ (strs_pur (ts.map ofL))
  simp only [prC, AV.lows, AV.low, h1, h3, decide_true, Bool.and_self, Bool.and_true, Bool.true_and]
  exact h2
/-- A reader of the program. -/
structure PRd (j : JH) (ro nb : Nat) (ts : List (List UInt8)) (b : Bool) (lt : Tok) (ls : List AV) : Prop where
  ho : ro < j.next
  hg : j.get ro = some (.cells PE (prC nb ts b lt ls))
  hn : nb < j.next
  hl : AV.low j.next j.tnext (.sl lt ls.length ls) = true
def hdS : List (List UInt8) → ByteArray
  | [] => ⟨#[]⟩
  | t :: _ => ofL t
section
variable {m : Int} {G : Nat → Option (List AV)}
theorem p1 {ro nb : Nat} {j : JH} {ts : List (List UInt8)} {b : Bool} {lt : Tok} {ls : List AV} {l : List AObj} (ho : ro < j.next) (hn : nb < j.next) (hl : AV.low j.next j.tnext (.sl lt ls.length ls) = true) : JDropH (ext j []) (ext (j.set ro (.cells PE (prC nb ts b lt ls))) l) (j.set ro (.cells PE (prC nb ts b lt ls))) :=
  (JDropH.back1 (TokExt.refl _) ho (OSub.low (prC_low hn hl))).of_ext
theorem s_Next {j : JH} {ro nb : Nat} {ts : List (List UInt8)} {b : Bool} {lt : Tok} {ls : List AV} (h : PRd j ro nb ts b lt ls) : JC Tryd.prog G 45 [.ptr ro 0] j (RET (STR (hdS ts)) j) := by
  obtain ⟨ho, hg, hn, hl⟩ := h
  cases ts with
  | nil =>
    refine JC.run hmix c45 (by exact k45) ?_
    (try simp only[↓jr,jw,seval,ext_get_old,ext_set_old,ho,hg,set_get,set_set,List.map_cons,List.drop_zero,slc_tail',List.length_cons,List.length_nil,ir45])
    refine JFIN.rb ?_
    exact SubB.v
  | cons t r =>
    refine JC.run hmix c45 (by exact k45) ?_
    (try simp only[↓jr,jw,seval,ext_get_old,ext_set_old,ho,hg,set_get,set_set,List.map_cons,List.drop_zero,slc_tail',List.length_cons,List.length_nil,ir45])
    refine wq.intro (fun h => absurd h (by omega)) (fun h => ?_)
    (try simp only[↓jr,jw,seval,ext_get_old,ext_set_old,ho,hg,set_get,set_set,List.map_cons,List.drop_zero,slc_tail',List.length_cons,List.length_nil])
    refine wc.intro ⟨by omega, by simp⟩ ?_
    (try simp only[↓jr,jw,seval,ext_get_old,ext_set_old,ho,hg,set_get,set_set,List.map_cons,List.drop_zero,slc_tail',List.length_cons,List.length_nil])
    refine JFIN.rb ?_
    exact SubB.v
theorem s_IsF {j : JH} {ro nb : Nat} {ts : List (List UInt8)} {b : Bool} {lt : Tok} {ls : List AV} (h : PRd j ro nb ts b lt ls) (t : List UInt8) (ht : hdS ts ≠ ofL t) : JC Tryd.prog G 70 [.ptr ro 0, STR (ofL t)] j (RET (BOO false) j) := by
  have hN := s_Next (G := G) (j := ext j []) (ro := ro) (nb := nb) (ts := ts) (b := b) (lt := lt) (ls := ls) ⟨by rw [ext_next]; unfold pid; have := h.ho; simp; omega, by rw [ext_get_old h.ho]; exact h.hg, by rw [ext_next]; unfold pid; have := h.hn; simp; omega, by rw [ext_next, ext_tnext]; exact h.hl⟩
  obtain ⟨ho, hg, hn, hl⟩ := h
  refine JC.run hmix c70 (by exact k70) ?_
  (try simp only[↓jr,jw,seval,ext_get_old,ext_set_old,ho,hg,set_get,set_set,List.map_cons,List.drop_zero,slc_tail',List.length_cons,List.length_nil,ir70])
  refine JCs.ret hN ?_
  (try simp only[↓jr,jw,seval,ext_get_old,ext_set_old,ho,hg,set_get,set_set,List.map_cons,List.drop_zero,slc_tail',List.length_cons,List.length_nil])
  refine wq.intro (fun h => absurd h ht) (fun h => ?_)
  (try simp only[↓jr,jw,seval,ext_get_old,ext_set_old,ho,hg,set_get,set_set,List.map_cons,List.drop_zero,slc_tail',List.length_cons,List.length_nil])
  refine JFIN.rb ?_
  exact SubB.v
theorem s_IsT {j : JH} {ro nb : Nat} {t : List UInt8} {r : List (List UInt8)} {b : Bool} {lt : Tok} {ls : List AV} (h : PRd j ro nb (t :: r) b lt ls) : JC Tryd.prog G 70 [.ptr ro 0, STR (ofL t)] j (RET (BOO true) (j.set ro (.cells PE (prC nb r b lt ls)))) := by
  have hN := s_Next (G := G) (j := ext j []) (ro := ro) (nb := nb) (ts := t :: r) (b := b) (lt := lt) (ls := ls) ⟨by rw [ext_next]; unfold pid; have := h.ho; simp; omega, by rw [ext_get_old h.ho]; exact h.hg, by rw [ext_next]; unfold pid; have := h.hn; simp; omega, by rw [ext_next, ext_tnext]; exact h.hl⟩
  obtain ⟨ho, hg, hn, hl⟩ := h
  refine JC.run hmix c70 (by exact k70) ?_
  (try simp only[↓jr,jw,seval,ext_get_old,ext_set_old,ho,hg,set_get,set_set,List.map_cons,List.drop_zero,slc_tail',List.length_cons,List.length_nil,ir70])
  refine JCs.ret hN ?_
  simp only [hdS]
  (try simp only[↓jr,jw,seval,ext_get_old,ext_set_old,ho,hg,set_get,set_set,List.map_cons,List.drop_zero,slc_tail',List.length_cons,List.length_nil])
  exact JFIN.ret (p1 ho hn hl) SubB.v
theorem s_TakeF {j : JH} {ro nb : Nat} {ts : List (List UInt8)} {b : Bool} {lt : Tok} {ls : List AV} (h : PRd j ro nb ts b lt ls) (t : List UInt8) (ht : hdS ts ≠ ofL t) : JC Tryd.prog G 71 [.ptr ro 0, STR (ofL t)] j (PAN wrongV j) := by
  have hN := s_IsF (G := G) (j := ext j []) (ro := ro) (nb := nb) (ts := ts) (b := b) (lt := lt) (ls := ls) ⟨by rw [ext_next]; unfold pid; have := h.ho; simp; omega, by rw [ext_get_old h.ho]; exact h.hg, by rw [ext_next]; unfold pid; have := h.hn; simp; omega, by rw [ext_next, ext_tnext]; exact h.hl⟩ t ht
  obtain ⟨ho, hg, hn, hl⟩ := h
  refine JC.run hmix c71 (by exact k71) ?_
  (try simp only[↓jr,jw,seval,ir71])
  refine JCs.ret hN ?_
  (try simp only[↓jr,jw,seval])
  exact JFIN.of (JDropH.back (TokExt.refl _)).of_ext (SubB.pure rfl) ⟨rfl, rfl⟩
theorem s_TakeT {j : JH} {ro nb : Nat} {t : List UInt8} {r : List (List UInt8)} {b : Bool} {lt : Tok} {ls : List AV} (h : PRd j ro nb (t :: r) b lt ls) : JC Tryd.prog G 71 [.ptr ro 0, STR (ofL t)] j (RET (aret []) (j.set ro (.cells PE (prC nb r b lt ls)))) := by
  have hN := s_IsT (G := G) (j := ext j []) (ro := ro) (nb := nb) (t := t) (r := r) (b := b) (lt := lt) (ls := ls) ⟨by rw [ext_next]; unfold pid; have := h.ho; simp; omega, by rw [ext_get_old h.ho]; exact h.hg, by rw [ext_next]; unfold pid; have := h.hn; simp; omega, by rw [ext_next, ext_tnext]; exact h.hl⟩
  obtain ⟨ho, hg, hn, hl⟩ := h
  refine JC.run hmix c71 (by exact k71) ?_
  (try simp only[↓jr,jw,seval,ext_get_old,ext_set_old,ho,hg,set_get,set_set,List.map_cons,List.drop_zero,slc_tail',List.length_cons,List.length_nil,ir71])
  refine JCs.ret hN ?_
  (try simp only[↓jr,jw,seval,ext_get_old,ext_set_old,ho,hg,set_get,set_set,List.map_cons,List.drop_zero,slc_tail',List.length_cons,List.length_nil])
  exact JFIN.ret (p1 ho hn hl) (SubB.pure rfl)
end
end Go.Proofs.YtcajjicdbphkpaaDoor.Pg
