/-
  Numbers put into sorted lists; new numbers of elements.
-/
import Derived.Test.YtnkkeenclhncmaaGreatDoorJa
set_option linter.unusedVariables false
set_option linter.unusedSimpArgs false
set_option maxRecDepth 100000
set_option maxHeartbeats 8000000
namespace Go.Proofs.YtnkkeenclhncmaaGreatDoor.Pg
open Go
theorem SubB.own2 {no nt t k s n : Nat} {cs ds : List AV} (h : t < nt) (p : SubBs no nt cs ds) : SubB no nt (.sl (.own t k s) n cs) (.sl (.own t k s) n ds) := fun μ μ' w u hr hv => by
  simp only [V] at hv ⊢
  obtain ⟨b, off, c, i, e, hn, hc, ht, hrest⟩ := hv
  exact ⟨b, off, c, i, e, hn, p.Cells hr hc, by rw [hr.tok, if_pos h]; exact ht, hrest⟩
theorem SubB.canS {j0 j : JH} {tok : Tok} {es n no : Nat} {cs ds : List AV} (h : CanApp j0 j tok es n) (hn : n ≠ 0) (p : SubBs no j.tnext cs ds) : SubB no j.tnext (.sl tok n cs) (.sl tok n ds) := by
  rcases h with ⟨rfl, e⟩ | ⟨t, h1, h2, rfl, h4⟩
  · exact absurd e hn
  · exact SubB.own2 h2 p
theorem CanApp.ext {j0 j j1 : JH} {tok : Tok} {es n : Nat} (h : CanApp j0 j tok es n) (e : TokExt j j1) : CanApp j0 j1 tok es n := by
  rcases h with h | ⟨t, h1, h2, h3, h4⟩
  · exact .inl h
  · exact .inr ⟨t, h1, Nat.lt_of_lt_of_le h2 e.tnext, h3, by rw [e.tok t h2]; exact h4⟩
theorem CanApp.base {j0 j j1 : JH} {tok : Tok} {es n : Nat} (h : CanApp j j1 tok es n) (e : TokExt j0 j) : CanApp j0 j1 tok es n := by
  rcases h with h | ⟨t, h1, h2, h3, h4⟩
  · exact .inl h
  · exact .inr ⟨t, Nat.le_trans e.tnext h1, h2, h3, h4⟩
theorem JAPP.push {j : JH} {es bytes m : Nat} {tok' : Tok} {cs' : List AV} {K : AV → JH → Prop} (h2 : cs'.length = m * es) (h3 : cs'.all AV.one = true) (h4 : m * bytes ≤ 140737488355328) (h5 : m ≤ 9223372036854775807) (hm : m ≠ 0)
    (k : K (.sl (.own j.tnext 0 es) m cs') (j.pushTok m)) : @JAPP j es bytes (.sl .nil 0 []) (.sl tok' m cs') ⟨K⟩ :=
  ⟨⟨by simp, h2, h3, by rw [Nat.zero_add]; exact h4, by rw [Nat.zero_add]; exact h5⟩, fun e => absurd e hm, fun _ => k⟩
theorem JAPP.zero {j : JH} {es bytes n : Nat} {tok tok' : Tok} {cs : List AV} {K : AV → JH → Prop} (h1 : cs.length = n * es) (h4 : n * bytes ≤ 140737488355328) (h5 : n ≤ 9223372036854775807)
    (k : K (.sl tok n cs) j) : @JAPP j es bytes (.sl tok n cs) (.sl tok' 0 []) ⟨K⟩ :=
  ⟨⟨h1, by simp, rfl, h4, h5⟩, fun _ => k, fun e => absurd rfl e⟩
theorem JAPP.setT {j : JH} {es bytes t n m : Nat} {tok' : Tok} {cs cs' : List AV} {K : AV → JH → Prop} (h1 : cs.length = n * es) (h2 : cs'.length = m * es) (h3 : cs'.all AV.one = true) (h4 : (n + m) * bytes ≤ 140737488355328) (h5 : n + m ≤ 9223372036854775807) (hm : m ≠ 0) (ht : j.tok t = some n)
    (k : K (.sl (.own t 0 es) (n + m) (cs ++ cs')) (j.setTok t (n + m))) : @JAPP j es bytes (.sl (.own t 0 es) n cs) (.sl tok' m cs') ⟨K⟩ :=
  ⟨⟨h1, h2, h3, h4, h5⟩, fun e => absurd e hm, fun _ => ⟨⟨by rw [Nat.zero_add]; exact ht, rfl⟩, by rw [Nat.zero_add]; exact k⟩⟩
theorem pr_tok2 {j : JH} {objs : List AObj} {k F : Nat} {u : Option Nat} : pair2 ⟨true, none, Pg.ext j objs, Pg.ext (j.pushTok F) objs⟩ ⟨true, u, Pg.ext (j.pushTok F) objs, Pg.ext ((j.pushTok F).pushTok k) objs⟩ :=
  fun _ _ => ⟨(fun ob q => by cases q), fun q => absurd rfl q, fun _ => (by
    show (j.pushTok F).tok j.tnext = ((j.pushTok F).pushTok k).tok j.tnext
    simp [JH.pushTok])⟩
def insI : List Int → Int → List Int
  | [], x => [x]
  | y :: l, x => if y = x then y :: l else if x < y then x :: y :: l else y :: insI l x
theorem insI_split {x : Int} : ∀ {l : List Int} {k : Nat}, (∀ y ∈ l.take k, y < x) → insI l x = l.take k ++ insI (l.drop k) x
  | l, 0, _ => by simp
  | [], k + 1, _ => by simp
  | y :: l, k + 1, h => by
    simp only [List.take_succ_cons, List.drop_succ_cons, List.cons_append] at h ⊢
    have hy := h y List.mem_cons_self
    simp only [insI]
    rw [if_neg (by omega), if_neg (by omega), insI_split fun z hz => h z (List.mem_cons_of_mem _ hz)]
section
variable {m : GM} {G : Nat → Option (List AV)}
def ir14 : IFn := ⟨19, [⟨6, none⟩], (.seq (.reg [oA 6 (.mov (kI 0))]) (.seq (.reg [oA 7 (kM 2), oA 8 (.bin .sub (.r 7) (kI 1)), oA 9 (kM 0), oA 10 (.bin .sub (.r 8) (.r 9)), oA 11 (kM 1), oA 12 (kM 2), oA 13 (.bin .rem (.r 11) (.r 12)), oA 14 (kM 2), oA 15 (.bin .add (.r 13) (.r 14)), oA 16 (.bin .add (.r 10) (.r 15)), oA 17 (kM 2), oA 18 (.bin .rem (.r 16) (.r 17)), oA 6 (kM 18)]) .ret))⟩
theorem c14 : cfunc Tryz.prog 14 = some ir14 := by kernel_rfl
theorem k14 : okIR (max 3 ir14.n) ir14.ir = true := by decide +kernel
theorem s_place (y : Int) (n x : Nat) (hn : 1 ≤ n) (hn2 : n ≤ 256) (hx : x < n) (j : JH) : JC Tryz.prog G 14 [I64 x, I64 y, I64 n] j (RET (I64 (plc y n x)) j) := by
  have h1 := Int.lt_tmod_of_pos y (b := (n : Int)) (by omega)
  have h2 := Int.tmod_lt_of_pos y (b := (n : Int)) (by omega)
  refine JC.run hmix c14 (by exact k14) ?_
  (try simp only[↓jr,jw,seval,ir14])
  refine wc.intro (by unfold R64; omega) ?_
  (try simp only[↓jr,jw,seval])
  refine wc.intro (by unfold R64; omega) ?_
  (try simp only[↓jr,jw,seval])
  refine wc.intro (by omega) ?_
  (try simp only[↓jr,jw,seval])
  refine wc.intro (by unfold R64; omega) ?_
  (try simp only[↓jr,jw,seval])
  refine wc.intro (by unfold R64; omega) ?_
  (try simp only[↓jr,jw,seval])
  refine wc.intro (by omega) ?_
  (try simp only[↓jr,jw,seval])
  refine JFIN.rb ?_
  exact SubB.v
def ir34 : IFn := ⟨37, [⟨4, none⟩], (.seq (.reg [oA 4 (.mov (.k (.sl .nil 0 [])))]) (.seq (.seq (.reg [oA 7 (kM 0), oT 8 7 (.lenl (.r 7)), oA 9 (.mov (kI 0))]) (.block 0 (.loop (.seq (.reg [oA 10 (.bin .lss (.r 9) (.r 8))]) (.seq (.cond (.r 10) .skip (.exit 0)) (.seq (.block 1 (.seq (.reg [oA 11 (kM 9), oA 12 (.iasl 1 (.r 7) (.r 9)), oL 13 12 none, oA 5 (kM 11), oA 6 (kM 13)]) (.seq (.seq (.reg [oA 14 (kM 6), oA 15 (kM 1), oA 16 (.bin .eql (.r 14) (.r 15))]) (.cond (.r 16) (.seq (.reg [oA 17 (kM 0), oA 4 (kM 17)]) .ret) .skip)) (.seq (.reg [oA 18 (kM 6), oA 19 (kM 1), oA 20 (.bin .gtr (.r 18) (.r 19))]) (.cond (.r 20) (.seq (.draw [oA 21 (kM 0), oA 22 (kM 5), oA 23 (.slc 1 (.r 21) none (some (.r 22))), oA 25 (kM 1), oA 26 (.bsl 1 1 [.v (.int .i64 0)] [(0, (1, .r 25))]), oA 28 (kM 0), oA 29 (kM 5), oA 30 (.slc 1 (.r 28) (some (.r 29)) none), oA 24 (.app 1 8 (.k (.sl .nil 0 [])) (.r 23)), oA 27 (.app 1 8 (.r 24) (.r 26)), oA 31 (.app 1 8 (.r 27) (.r 30)), oA 4 (kM 31)] [(4, 8)]) .ret) .skip))))) (.reg [oA 32 (.bin .add (.r 9) (kI 1)), oA 9 (kM 32)]))))))) (.seq (.reg [oA 33 (kM 0), oA 34 (kM 1), oA 35 (.bsl 1 1 [.v (.int .i64 0)] [(0, (1, .r 34))]), oA 36 (.app 1 8 (.r 33) (.r 35)), oA 4 (kM 36)]) .ret)))⟩
theorem c34 : cfunc Tryz.prog 34 = some ir34 := by kernel_rfl
theorem k34 : okIR (max 2 ir34.n) ir34.ir = true := by decide +kernel
theorem s_Insert (l : List Int) (x : Int) (tok : Tok) (objs : List AObj) (j0 j : JH) (hl : l.length ≤ 1000000) (hc : CanApp j0 j tok 1 l.length) (ht : TokExt j0 j) :
    JC Tryz.prog G 34 [.sl tok l.length (ints l), I64 x] (ext j objs) fun o j' => ∃ tok1 j1, o = .ret (.sl tok1 (insI l x).length (ints (insI l x))) ∧ j' = ext j1 objs ∧ TokExt j0 j1 ∧ j.tnext ≤ j1.tnext ∧ CanApp j0 j1 tok1 1 (insI l x).length := by
  have hsc : ∀ no, SubB no (Pg.ext j objs).tnext (.sl tok l.length (ints l)) (.sl tok l.length (ints l)) := fun no => SubB.can hc (ints_pur _)
  refine JC.run hmix c34 (by exact k34) ?_
  (try simp only[↓jr,jw,seval,ints_drop,ints_cons,ints_len',ext_ext,pid_pid,ir34])
  refine JLOOP.of (σ := Nat) (fun k => k ≤ l.length ∧ ∀ y ∈ l.take k, y < x) (fun k => l.length - k)
    (fun k => [(9, I64 k), (8, I64 l.length), (7, .sl .none l.length (ints l)), (0, .sl tok l.length (ints l)), (1, I64 x)]) (fun k => ext j objs) 0 ⟨Nat.zero_le _, by simp⟩ ?_ (JDropH.refl _) ?_
  · (try simp only[↓jr,jw,seval,ints_drop,ints_cons,ints_len',ext_ext,pid_pid,DL])
    exact ⟨SubB.v, SubB.v, SubB.sl rfl (SubBs.pure (ints_pur _)), hsc _, SubB.v⟩
  rintro k ⟨hk, hI⟩
  (try simp only[↓jr,jw,seval,ints_drop,ints_cons,ints_len',ext_ext,pid_pid])
  refine wq.intro (fun g1 => ?_) (fun g1 => ?_)
  · have hlt : k < (l).length := by omega
    obtain ⟨y, r, hd⟩ : ∃ c_ l_, List.drop k (l) = c_ :: l_ := ⟨_, _, List.drop_eq_getElem_cons hlt⟩
    have hd1 : List.drop (k + 1) (l) = r := by rw [← List.drop_drop, hd]; rfl
    have hmem : y ∈ l := List.mem_of_mem_drop (hd ▸ List.mem_cons_self)
    (try simp only[↓jr,jw,seval,ints_drop,ints_cons,ints_len',ext_ext,pid_pid,hd])
    refine wc.intro (by omega) ?_
    (try simp only[↓jr,jw,seval,ints_drop,ints_cons,ints_len',ext_ext,pid_pid,hd])
    refine wq.intro (fun g2 => ?_) (fun g2 => ?_)
    · subst g2
      have e : insI l y = l := by
        rw [insI_split hI, hd]
        simp only [insI, if_true]
        rw [← hd]; exact List.take_append_drop k l
      rw [e]
      (try simp only[↓jr,jw,seval,ints_drop,ints_cons,ints_len',ext_ext,pid_pid])
      exact JFIN.same (hsc _) ⟨tok, j, rfl, rfl, ht, Nat.le_refl _, hc⟩
    · (try simp only[↓jr,jw,seval,ints_drop,ints_cons,ints_len',ext_ext,pid_pid])
      refine wq.intro (fun g3 => ?_) (fun g3 => ?_)
      · have e : insI l x = l.take k ++ (x :: l.drop k) := by
          rw [insI_split hI, hd]
          simp only [insI]
          rw [if_neg g2, if_pos g3]
        rw [e]
        rcases hc with ⟨_, h0⟩ | ⟨t, q1, q2, rfl, q4⟩
        · omega
        have ab : ∀ d, abound l.length (some (I64 (k : Int))) d = some k := fun d => by
          simp only [abound, aint]; rw [if_pos ⟨by omega, by omega⟩]; rfl
        have hil : (ints l).length = l.length * 1 := by simp [ints]
        have hs1 : islc 1 none (some (I64 (k : Int))) (.sl (.own t 0 1) l.length (ints l)) = some (.sl .none k (ints (l.take k))) := by
          simp only [islc, ab]
          rw [show abound k none 0 = some 0 from rfl]
          simp only
          rw [if_pos hil, if_neg (by omega)]
          simp [ints, List.map_take]
        have hs2 : islc 1 (some (I64 (k : Int))) none (.sl (.own t 0 1) l.length (ints l)) = some (.sl (.own t k 1) (l.length - k) (ints (l.drop k))) := by
          simp only [islc]
          rw [show abound l.length none l.length = some l.length from rfl]
          simp only [ab]
          rw [if_pos hil]
          simp [ints, List.map_drop, hlt]
        (try simp only[↓jr,jw,seval,ints_drop,ints_cons,ints_len',ext_ext,pid_pid,hs1,hs2])
        have htk : (ints (l.take k)).length = k * 1 := by simp [ints]; omega
        have hdk : (ints (l.drop k)).length = (l.length - k) * 1 := by simp [ints]
        have hone : ∀ r : List Int, (ints r).all AV.one = true := fun r => by unfold ints; rw [List.all_map]; exact List.all_eq_true.2 fun _ _ => rfl
        have hlen : (l.take k ++ x :: l.drop k).length = l.length + 1 := by simp; omega
        by_cases hk0 : k = 0
        · subst hk0
          refine JAPP.zero rfl (by omega) (by omega) ?_
          (try simp only[↓jr,jw,seval,ints_drop,ints_cons,ints_len',ext_ext,pid_pid])
          refine JAPP.push rfl rfl (by omega) (by omega) (by omega) ?_
          (try simp only[↓jr,jw,seval,ints_drop,ints_cons,ints_len',ext_ext,pid_pid])
          refine JAPP.setT rfl hdk (hone _) (by omega) (by omega) (by omega) (by simp [ext_tok, JH.pushTok]) ?_
          (try simp only[↓jr,jw,seval,ints_drop,ints_cons,ints_len',ext_ext,pid_pid])
          refine JDRAW.oc (by (try simp only[↓jr,jw,seval,ints_drop,ints_cons,ints_len',ext_ext,pid_pid,jq,qe2,qe3,ext_next,ext_tnext,pushTok_next,List.length_cons,List.length_nil]) <;> (repeat' (first | exact trivial | refine And.intro ?_ ?_ | exact Nat.le_refl _ | (refine pr_extp ⟨_, rfl⟩ (some_lt ?_)) | (refine pr_extp ⟨_, rfl⟩ (fun _ q => by cases q)) | omega | (unfold pid; omega) | (simp only [pushTok_next, List.length_cons, List.length_nil]; unfold pid; omega)))) ?_; (try simp only[↓jr,jw,seval,ints_drop,ints_cons,ints_len',ext_ext,pid_pid])
          have e1 : 1 + (l.length - 0) = (l.take 0 ++ x :: l.drop 0).length := by rw [hlen]; omega
          have e2 : I64 x :: ints l = ints (l.take 0 ++ x :: l.drop 0) := by simp [ints]
          rw [e1, e2]
          have hcan : CanApp j0 (((j.pushTok 1).pushTok 1).setTok (j.tnext + 1) (l.take 0 ++ x :: l.drop 0).length) (.own (j.tnext + 1) 0 1) 1 (l.take 0 ++ x :: l.drop 0).length := .inr ⟨j.tnext + 1, by have := ht.tnext; omega, by show j.tnext + 1 < j.tnext + 1 + 1; omega, rfl, by simp [JH.setTok]⟩
          exact JFIN.same (SubB.can hcan (ints_pur _)) ⟨_, _, rfl, rfl, ((ht.push 1).push 1).setT (by have := ht.tnext; omega) _, by show j.tnext ≤ j.tnext + 1 + 1; omega, hcan⟩
        · refine JAPP.push htk (hone _) (by omega) (by omega) hk0 ?_
          (try simp only[↓jr,jw,seval,ints_drop,ints_cons,ints_len',ext_ext,pid_pid])
          refine JAPP.setT htk rfl rfl (by omega) (by omega) (by omega) (by simp [ext_tok, JH.pushTok]) ?_
          (try simp only[↓jr,jw,seval,ints_drop,ints_cons,ints_len',ext_ext,pid_pid])
          refine JAPP.setT (by rw [List.length_append, htk]; simp) hdk (hone _) (by omega) (by omega) (by omega) (by simp [ext_tok, JH.pushTok, JH.setTok]) ?_
          (try simp only[↓jr,jw,seval,ints_drop,ints_cons,ints_len',ext_ext,pid_pid])
          refine JDRAW.oc (by (try simp only[↓jr,jw,seval,ints_drop,ints_cons,ints_len',ext_ext,pid_pid,jq,qe2,qe3,ext_next,ext_tnext,pushTok_next,List.length_cons,List.length_nil]) <;> (repeat' (first | exact trivial | exact pr_tok2 | refine And.intro ?_ ?_ | exact Nat.le_refl _ | omega | (unfold pid; omega)))) ?_
          have e1 : k + 1 + (l.length - k) = (l.take k ++ x :: l.drop k).length := by rw [hlen]; omega
          have e2 : ints (l.take k) ++ [I64 x] ++ ints (l.drop k) = ints (l.take k ++ x :: l.drop k) := by simp [ints]
          rw [e1, e2]
          have hcan : CanApp j0 ((((j.pushTok 1).pushTok k).setTok (j.tnext + 1) (k + 1)).setTok (j.tnext + 1) (l.take k ++ x :: l.drop k).length) (.own (j.tnext + 1) 0 1) 1 (l.take k ++ x :: l.drop k).length := .inr ⟨j.tnext + 1, by have := ht.tnext; omega, by show j.tnext + 1 < j.tnext + 1 + 1; omega, rfl, by simp [JH.setTok]⟩
          exact JFIN.same (SubB.can hcan (ints_pur _)) ⟨_, _, rfl, rfl, (((ht.push 1).push k).setT (by have := ht.tnext; omega) _).setT (by have := ht.tnext; omega) _, by show j.tnext ≤ j.tnext + 1 + 1; omega, hcan⟩
      · (try simp only[↓jr,jw,seval,ints_drop,ints_cons,ints_len',ext_ext,pid_pid])
        refine wc.intro (by unfold R64; omega) ?_
        (try simp only[↓jr,jw,seval,ints_drop,ints_cons,ints_len',ext_ext,pid_pid])
        refine JNEXT.of (k + 1) ⟨by omega, fun z hz => ?_⟩ (by omega) ?_ (JDropH.refl _)
        · rw [take_snoc hd] at hz
          rcases List.mem_append.1 hz with h | h
          · exact hI z h
          · rw [List.mem_singleton.1 h]; omega
        · (try simp only[↓jr,jw,seval,ints_drop,ints_cons,ints_len',ext_ext,pid_pid,DL])
          exact ⟨SubB.v, SubB.v, SubB.sl rfl (SubBs.pure (ints_pur _)), hsc _, SubB.v⟩
  · rw [List.take_of_length_le (by omega)] at hI
    have e : insI l x = l ++ [x] := by
      rw [insI_split (k := l.length) (by rw [List.take_length]; exact hI), List.take_length, List.drop_length]; rfl
    rw [e]
    (try simp only[↓jr,jw,seval,ints_drop,ints_cons,ints_len',ext_ext,pid_pid])
    refine JAPP.can' hc.push (ht.push 1) (by simp [ints]) rfl rfl (by omega) (by omega) ?_
    intro tok1 j1 hcan ht3 hle
    (try simp only[↓jr,jw,seval,ints_drop,ints_cons,ints_len',ext_ext,pid_pid])
    have e2 : ints l ++ [I64 x] = ints (l ++ [x]) := by simp [ints]
    have e3 : l.length + 1 = (l ++ [x]).length := by simp
    rw [e2, e3]
    rw [e3] at hcan
    exact JFIN.same (SubB.can hcan (ints_pur _)) ⟨tok1, j1, rfl, rfl, ht3, Nat.le_trans (Nat.le_succ _) hle, hcan⟩
end
end Go.Proofs.YtnkkeenclhncmaaGreatDoor.Pg
