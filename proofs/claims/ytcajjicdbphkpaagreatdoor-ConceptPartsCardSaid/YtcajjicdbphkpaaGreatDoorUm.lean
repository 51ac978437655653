/-
  The subconcepts, each once: the program.
-/
import Derived.Test.YtcajjicdbphkpaaGreatDoorUl
import Derived.Test.YtcajjicdbphkpaaGreatDoorUn
import Derived.Test.YtcajjicdbphkpaaGreatDoorUh
set_option linter.unusedVariables false
set_option linter.unusedSimpArgs false
set_option maxRecDepth 100000
set_option maxHeartbeats 8000000
namespace Go.Proofs.YtcajjicdbphkpaaGreatDoor.Pg
open Go
def ded (n : Nms) (acc : List Con) (x : Con) : List Con := if 0 ≤ findS (acc.map (strC n)) (strC n x) then acc else acc ++ [x]
def outL (n : Nms) (d : List Con) : List Con := d.foldl (ded n) []
theorem outL_snoc (n : Nms) (d : List Con) (x : Con) : outL n (d ++ [x]) = ded n (outL n d) x := by simp [outL]
theorem ded_len (n : Nms) (a : List Con) (x : Con) : a.length ≤ (ded n a x).length ∧ (ded n a x).length ≤ a.length + 1 := by
  unfold ded; split <;> simp
theorem fold_ded_len (n : Nms) : ∀ (e a : List Con), a.length ≤ (e.foldl (ded n) a).length ∧ (e.foldl (ded n) a).length ≤ a.length + e.length
  | [], a => by simp
  | x :: e, a => by
    have h1 := ded_len n a x
    have h2 := fold_ded_len n e (ded n a x)
    simp only [List.foldl_cons, List.length_cons]; omega
theorem outL_le (n : Nms) (d e : List Con) : (outL n d).length ≤ (outL n (d ++ e)).length := by
  unfold outL; rw [List.foldl_append]; exact (fold_ded_len n e _).1
theorem outL_len (n : Nms) (d : List Con) : (outL n d).length ≤ d.length := by
  have := (fold_ded_len n d []).2
  simpa [outL] using this
def sb (jb : JH) (k : Nat) : JH := if k = 0 then jb else ((jb.pushTok 1).pushTok 1).setTok (jb.tnext + 1) k
def sk (jb : JH) (k : Nat) : Tok := if k = 0 then .nil else .own (jb.tnext + 1) 0 3
theorem sb_next {jb : JH} {k : Nat} : (sb jb k).next = jb.next := by unfold sb; split <;> rfl
theorem sb_get {jb : JH} {k : Nat} : (sb jb k).get = jb.get := by unfold sb; split <;> rfl
theorem sb_tnext {jb : JH} {k : Nat} : (sb jb k).tnext = if k = 0 then jb.tnext else jb.tnext + 2 := by unfold sb; split <;> rfl
theorem sb_tok {jb : JH} {k : Nat} (h : k ≠ 0) (t : Nat) : (sb jb k).tok t = if t = jb.tnext + 1 then some k else if t = jb.tnext then some 1 else jb.tok t := by
  unfold sb
  rw [if_neg h]
  show (if t = jb.tnext + 1 then some k else if t = jb.tnext + 1 then some 1 else if t = jb.tnext then some 1 else jb.tok t) = _
  by_cases q : t = jb.tnext + 1 <;> simp [q]
abbrev sObjs (n : Nms) (c : Con) (jb : JH) (a : List Con) (m : Nat) (obj : AObj) : List AObj := [.cells 24 n.enc, .cells 27 c.enc, .cells 25 [.sl (sk jb a.length) a.length (encs Con.enc a)], .map (mapS (a.map (strC n))), .cells 53 [.mp m], .cells 27 c.enc, obj]
abbrev sJ (n : Nms) (c : Con) (jb : JH) (a : List Con) (obj : AObj) : JH := Pg.ext (sb jb a.length) (sObjs n c jb a (pid jb.next 3) obj)
theorem sJ_old {n : Nms} {c : Con} {jb : JH} {a : List Con} {obj : AObj} {o : Nat} (h : o < jb.next) : (sJ n c jb a obj).get o = jb.get o := by
  show (Pg.ext _ _).get o = _
  rw [ext_get_old (by rw [sb_next]; exact h), sb_get]
theorem sJ_new {n : Nms} {c : Con} {jb : JH} {a : List Con} {obj : AObj} (k : Nat) : (sJ n c jb a obj).get (pid jb.next k) = (sObjs n c jb a (pid jb.next 3) obj)[k]? := ext_get_new sb_next
theorem sJ_next {n : Nms} {c : Con} {jb : JH} {a : List Con} {obj : AObj} : (sJ n c jb a obj).next = pid jb.next 7 := by show pid (sb _ _).next 7 = _; rw [sb_next]
theorem sJ_at {jb : JH} {o : Nat} (h : o < pid jb.next 7) : o < jb.next ∨ o = pid jb.next 2 ∨ o = pid jb.next 3 ∨ (o = pid jb.next 0 ∨ o = pid jb.next 1 ∨ o = pid jb.next 4 ∨ o = pid jb.next 5 ∨ o = pid jb.next 6) := by
  unfold pid at *; omega
theorem sJ_gt {n : Nms} {c : Con} {jb : JH} {a b : List Con} {obj : AObj} {o : Nat} {ob : AObj} (ho : o < pid jb.next 7) (he : (sJ n c jb b obj).get o = some ob) : (sJ n c jb a obj).get o = some ob ∨ ∀ no, OSub no (sJ n c jb b obj).tnext ob ob := by
  rcases sJ_at ho with h | rfl | rfl | h
  · rw [sJ_old h] at he ⊢; exact .inl he
  · rw [sJ_new] at he
    cases he
    refine .inr fun no => ⟨rfl, ?_, True.intro⟩
    show SubB no (sb _ _).tnext _ _
    rw [sb_tnext]
    unfold sk
    by_cases z : b.length = 0
    · rw [if_pos z, if_pos z]; exact SubB.pure (by simp only [AV.pure]; exact encs_pur Con.pur _)
    · rw [if_neg z, if_neg z]; exact SubB.own (by omega) (SubBs.pure (encs_pur Con.pur _))
  · rw [sJ_new] at he
    cases he
    exact .inr fun no => OSub.mapS
  · left
    rcases h with rfl | rfl | rfl | rfl | rfl <;> rw [sJ_new] at he ⊢ <;> exact he
theorem Fam.subs (n : Nms) (c : Con) (jb : JH) (obj : AObj) : Fam (pid jb.next 7) (fun d => sJ n c jb (outL n d) obj) := by
  refine ⟨fun d => sJ_next, fun d e => ?_, fun d e o x ho he => sJ_gt ho he⟩
  show (sb _ _).tnext ≤ (sb _ _).tnext
  rw [sb_tnext, sb_tnext]
  have := outL_le n d e
  split <;> split <;> omega
theorem subs_end {n : Nms} {c : Con} {jb : JH} {a : List Con} {x : Con} {obj busy : AObj} {l m : List AObj} {X' : JH} {tk : Tok} {cs : List AV} (h : ded n a x = a ++ [x]) (hn : X'.next = pid jb.next 7) (h1 : (sb jb (a.length + 1)).tnext ≤ X'.tnext) (h2 : ∀ t, t < (sb jb (a.length + 1)).tnext → X'.tok t = (sb jb (a.length + 1)).tok t)
    (h3 : ∀ o, X'.get o = if o = pid jb.next 6 then some obj else if o = pid jb.next 2 then some (.cells 25 [.sl tk (a.length + 1) cs]) else if o = pid jb.next 3 then some (.map (mapS (a.map (strC n) ++ [strC n x]))) else if o = pid jb.next 6 then some busy else (sJ n c jb a obj).get o)
    (h4 : tk = sk jb (a.length + 1)) (h5 : cs = encs Con.enc (a ++ [x])) :
    ∃ y j'', JDropW (Pg.ext (sJ n c jb a obj) l) (Pg.ext X' (l ++ m)) j'' ∧ SubB j''.next j''.tnext (.v (.bool true)) y ∧ RET (BOO true) (Pg.ext (sJ n c jb (ded n a x) obj) l) (.ret y) j'' := by
  refine ⟨BOO true, Pg.ext (sJ n c jb (a ++ [x]) obj) l, .inl ?_, SubB.v, rfl, by rw [h]⟩
  have hl : (a ++ [x]).length = a.length + 1 := by simp
  have tn : (sJ n c jb (a ++ [x]) obj).tnext = (sb jb (a.length + 1)).tnext := by show (sb _ _).tnext = _; rw [hl]
  have tt : (sJ n c jb (a ++ [x]) obj).tok = (sb jb (a.length + 1)).tok := by show (sb _ _).tok = _; rw [hl]
  refine JDropH.next ⟨by rw [hn, sJ_next], fun o ho => ?_, by rw [tn]; exact h1, fun t ht => by rw [tt]; rw [tn] at ht; exact h2 t ht⟩ (by rw [sJ_next, sJ_next]) ?_ (fun o ob ho he => ?_) (LSub.self l)
  · rw [sJ_next] at ho
    rw [h3]
    have ne : ∀ p q, p ≠ q → ¬ pid jb.next p = pid jb.next q := fun p q h => by simp [pid, h]
    rcases sJ_at ho with q | rfl | rfl | q
    · rw [if_neg (by unfold pid; omega), if_neg (by unfold pid; omega), if_neg (by unfold pid; omega), if_neg (by unfold pid; omega), sJ_old q, sJ_old q]
    · rw [if_neg (ne 2 6 (by decide)), if_pos rfl, sJ_new, h4, h5]
      show some _ = some (AObj.cells _ [.sl (sk jb (a ++ [x]).length) (a ++ [x]).length _])
      rw [hl]
    · rw [if_neg (ne 3 6 (by decide)), if_neg (ne 3 2 (by decide)), if_pos rfl, sJ_new]
      show some _ = some (AObj.map (mapS ((a ++ [x]).map (strC n))))
      rw [List.map_append]; rfl
    · rcases q with rfl | rfl | rfl | rfl | rfl
      · rw [if_neg (ne 0 6 (by decide)), if_neg (ne 0 2 (by decide)), if_neg (ne 0 3 (by decide)), if_neg (ne 0 6 (by decide)), sJ_new, sJ_new]; rfl
      · rw [if_neg (ne 1 6 (by decide)), if_neg (ne 1 2 (by decide)), if_neg (ne 1 3 (by decide)), if_neg (ne 1 6 (by decide)), sJ_new, sJ_new]; rfl
      · rw [if_neg (ne 4 6 (by decide)), if_neg (ne 4 2 (by decide)), if_neg (ne 4 3 (by decide)), if_neg (ne 4 6 (by decide)), sJ_new, sJ_new]; rfl
      · rw [if_neg (ne 5 6 (by decide)), if_neg (ne 5 2 (by decide)), if_neg (ne 5 3 (by decide)), if_neg (ne 5 6 (by decide)), sJ_new, sJ_new]; rfl
      · rw [if_pos rfl, sJ_new]; rfl
  · rw [tn]; show (sb _ _).tnext ≤ _; rw [sb_tnext, sb_tnext]; split <;> split <;> omega
  · rw [sJ_next] at ho
    rcases sJ_gt (a := a) ho he with q | q
    · exact .inl q
    · exact .inr (q _)
mutual
theorem pre_shaped {nc nr : Nat} : ∀ c : Con, shaped nc nr c = true → ∀ x ∈ pre c, shaped nc nr x = true
  | .mk o n l, h, x, hx => by
    simp only [pre, List.mem_cons] at hx
    rcases hx with rfl | hx
    · exact h
    · rw [shaped_mk] at h; exact preL_shaped l h.2 x hx
theorem preL_shaped {nc nr : Nat} : ∀ l : List Con, shapedL nc nr l = true → ∀ x ∈ preL l, shaped nc nr x = true
  | [], _, x, hx => by simp [preL] at hx
  | c :: l, h, x, hx => by
    simp only [preL, List.mem_append] at hx
    simp only [shapedL, Bool.and_eq_true] at h
    rcases hx with hx | hx
    · exact pre_shaped c h.1 x hx
    · exact preL_shaped l h.2 x hx
end
mutual
theorem pre_nodes : ∀ c : Con, ∀ x ∈ pre c, x.nodes ≤ c.nodes
  | .mk o n l, x, hx => by
    simp only [pre, List.mem_cons] at hx
    rcases hx with rfl | hx
    · exact Nat.le_refl _
    · have := preL_nodes l x hx; simp only [Con.nodes]; omega
theorem preL_nodes : ∀ l : List Con, ∀ x ∈ preL l, x.nodes ≤ Con.nodesL l
  | [], x, hx => by simp [preL] at hx
  | c :: l, x, hx => by
    simp only [preL, List.mem_append] at hx
    rcases hx with hx | hx
    · have := pre_nodes c x hx; simp only [Con.nodesL]; omega
    · have := preL_nodes l x hx; simp only [Con.nodesL]; omega
end
theorem fine_zero {n : Nms} {c : Con} (h : fineE n [c] = 0) : namesOK n = true ∧ conOK n c = true ∧ shaped n.cs.length n.rs.length c = true := by
  unfold fineE at h
  split at h
  · omega
  · rename_i h1
    split at h
    · rename_i h2
      simp only [List.all_cons, List.all_nil, Bool.and_true] at h2
      refine ⟨by simpa using h1, h2, ?_⟩
      unfold conOK at h2
      simp only [Bool.and_eq_true] at h2
      exact h2.2
    · omega
theorem few_sizes {n : Nms} (h : fewNames n = true) : (∀ s ∈ n.cs, s.size ≤ 100) ∧ (∀ s ∈ n.rs, s.size ≤ 100) := by
  unfold fewNames at h
  simp only [Nms.lists, List.all_cons, List.all_nil, Bool.and_true, Bool.and_eq_true, decide_eq_true_eq, List.all_eq_true] at h
  exact ⟨h.1.2, h.2.1.2⟩
theorem JAPP.new1 {j : JH} {es bytes : Nat} {tok' : Tok} {cs' : List AV} {K : AV → JH → Prop} (h2 : cs'.length = es) (h3 : cs'.all AV.one = true) (h4 : bytes ≤ 140737488355328) (k : K (.sl (.own j.tnext 0 es) 1 cs') (j.pushTok 1)) : @JAPP j es bytes (.sl .nil 0 []) (.sl tok' 1 cs') ⟨K⟩ :=
  ⟨⟨by simp, by omega, h3, by omega, by omega⟩, fun e => absurd e (by omega), fun _ => k⟩
theorem JAPP.more1 {j : JH} {es bytes t n : Nat} {tok' : Tok} {cs cs' : List AV} {K : AV → JH → Prop} (h1 : cs.length = n * es) (h2 : cs'.length = es) (h3 : cs'.all AV.one = true) (h4 : (n + 1) * bytes ≤ 140737488355328) (h5 : n + 1 ≤ 9223372036854775807) (ht : j.tok t = some n)
    (k : K (.sl (.own t 0 es) (n + 1) (cs ++ cs')) (j.setTok t (n + 1))) : @JAPP j es bytes (.sl (.own t 0 es) n cs) (.sl tok' 1 cs') ⟨K⟩ :=
  ⟨⟨h1, by omega, h3, h4, h5⟩, fun e => absurd e (by omega), fun _ => ⟨⟨by rw [Nat.zero_add]; exact ht, rfl⟩, by rw [Nat.zero_add]; exact k⟩⟩
section
variable {m : GM}
noncomputable def ir7 : IFn := ⟨39, [⟨4, none⟩, ⟨5, none⟩], (.seq (.reg [oA 2 (.box 24 (.r 0)), oA 3 (.box 27 (.r 1)), oA 4 (.mov (.k (.sl .nil 0 []))), oA 5 (.mov (kI 0))]) (.seq (.seq (.reg [oL 11 2 (some 3), oL 12 3 (some 3), oA 13 (.bsl 1 3 [.v (.int .i64 0), .v (.int .i64 0), .sl .nil 0 []] [(0, (3, .r 12))]), oA 14 (.call 19 [.r 11, .r 13]), oA 6 (kM 14)]) (.seq (.reg [oA 15 (kM 6), oA 16 (.bin .neq (.r 15) (kI 0))]) (.cond (.r 16) (.seq (.reg [oA 17 (kM 6), oA 4 (.mov (.k (.sl .nil 0 []))), oA 5 (kM 17)]) .ret) .skip))) (.seq (.reg [oA 7 (.alloc 25 [.sl .nil 0 []])]) (.seq (.reg [oA 18 (.mkmap), oA 8 (.alloc 53 [.v (.map none)]), oN (.store 1 (.r 8) (.r 18))]) (.seq (.seq (.reg [oL 19 3 (some 3), oT 20 19 (.call 20 [.r 19])]) (.block 0 (.rng (.r 20) #[21] (rca Tryz.prog 7 0) (rcb Tryz.prog 7 0) (.reg [oA 9 (.alloc 27 [.v (.int .i64 0), .v (.int .i64 0), .sl .nil 0 []]), oN (.store 3 (.r 9) (.r 21))]) (.block 1 (.seq (.reg [oL 22 2 (some 3), oL 23 9 (some 3), oA 24 (.call 21 [.r 22, .r 23]), oA 10 (kM 24)]) (.seq (.reg [oL 25 8 none, oA 26 (kM 10), oT 27 25 (.lookup .string (.v (.bool false)) false (.r 25) (.r 26)), oA 28 (.not (.r 27))]) (.cond (.r 28) (.seq (.reg [oL 29 8 none, oA 30 (kM 10), oN (.mapup .string (.r 29) (.r 30) (kB true))]) (.orc (rgat Tryz.prog 7 11))) .skip))))))) (.seq (.reg [oL 38 7 none, oA 4 (kM 38), oA 5 (.mov (kI 0))]) .ret))))))⟩
theorem c7 : cfunc Tryz.prog 7 = some ir7 := by kernel_rfl
theorem k7 : okIR (max 2 ir7.n) ir7.ir = true := by decide +kernel
theorem s_Subs (n : Nms) (hn : n.ok) (hs : n.short) (hf : fewNames n = true) (c : Con) (hc : c.ok) (hb : c.nodes ≤ 1000000) (j : JH) :
    JC Tryz.prog (GG m) 7 [.agg n.enc, .agg c.enc] j (RET (.tup [.sl .none (if fineE n [c] = 0 then outL n (pre c) else []).length (encs Con.enc (if fineE n [c] = 0 then outL n (pre c) else [])), I64 (fineE n [c])]) j) := by
  refine JC.run hmix c7 (by exact k7) ?_
  (try simp only[↓jr,jw,seval,ir7])
  have hfn := s_fine (m := m) n hn hs [c] (.own j.tnext 0 3) ⟨hc, trivial⟩ (by simp) (fun d hd => by rw [List.mem_singleton.1 hd]; omega) (ext (j.pushTok 1) [.cells 24 n.enc, .cells 27 c.enc])
  rw [encs_cons, encs_nil, List.append_nil] at hfn
  refine JCs.ret hfn ?_
  (try simp only[↓jr,jw,seval])
  refine wq.intro (fun q => ?_) (fun q => ?_)
  rotate_left
  · (try simp only[↓jr,jw,seval])
    refine JFIN.rb ?_
    simp only [if_neg q]
    exact SubB.tup ⟨SubB.sl rfl True.intro, SubB.v, True.intro⟩
  (try simp only[↓jr,jw,seval])
  refine JCs.ret (s_All c _) ?_
  (try simp only[↓jr,jw,seval,ext_ext,pid_pid,List.cons_append])
  refine JRNG.of (by kernel_rfl) ?_
  intro obj busy hround
  rw [ext_push]
  have hsh : shaped n.cs.length n.rs.length c = true ∧ (∀ s ∈ n.cs, s.size ≤ 100) ∧ (∀ s ∈ n.rs, s.size ≤ 100) := ⟨(fine_zero q).2.2, few_sizes hf⟩
  have hpre : ∀ x ∈ pre c, shaped n.cs.length n.rs.length x = true ∧ x.nodes ≤ 1000000 := fun x hx => ⟨pre_shaped c hsh.1 x hx, Nat.le_trans (pre_nodes c x hx) hb⟩
  obtain ⟨jb, hjb⟩ : ∃ jb, jb = j.pushTok 1 := ⟨_, rfl⟩
  have hjn : j.next = jb.next := by rw [hjb]; rfl
  rw [hjn, ← hjb] at hround ⊢
  have F := Fam.subs n c jb obj
  have h0 : (fun d => sJ n c jb (outL n d) obj) [] = Pg.ext jb ([AObj.cells 24 n.enc, AObj.cells 27 c.enc, AObj.cells 25 [AV.sl Tok.nil 0 []], AObj.map [], AObj.cells 53 [AV.mp (pid jb.next 3)], AObj.cells 27 c.enc] ++ [obj]) := rfl
  have hr : RND Tryz.prog (GG m) (pid jb.next 6) (pre c) (fun d => sJ n c jb (outL n d) obj) := by
    intro done x rest e l
    have hxm : x ∈ pre c := by rw [← e]; simp
    have hx := pre_ok c hc x hxm
    obtain ⟨hxs, hxn⟩ := hpre x hxm
    refine hround [.agg x.enc] _ _ ?_ rfl ?_
    · show (Pg.ext (Pg.ext _ _) l).get (pid jb.next 6) = _
      rw [ext_ext]
      exact ext_get_new sb_next
    simp only [psL]
    rw [outL_snoc]
    have hlen : (outL n done).length ≤ 1000000 := by have h1 := outL_len n done; have h2 := pre_len c; rw [← e] at h2; simp at h2; omega
    generalize outL n done = a at *
    obtain ⟨X, hX⟩ : ∃ X, X = sJ n c jb a obj := ⟨_, rfl⟩
    have hXn : X.next = pid jb.next 7 := by rw [hX]; show pid (sb _ _).next 7 = _; rw [sb_next]
    have hg : ∀ k, X.get (pid jb.next k) = (sObjs n c jb a (pid jb.next 3) obj)[k]? := fun k => by rw [hX]; exact ext_get_new sb_next
    have g0 := hg 0
    have g2 := hg 2
    have g3 := hg 3
    have g4 := hg 4
    have g6 := hg 6
    simp only [List.getElem?_cons_zero, List.getElem?_cons_succ] at g0 g2 g3 g4 g6
    have l0 : pid jb.next 0 < X.next := by rw [hXn]; unfold pid; omega
    have l2 : pid jb.next 2 < X.next := by rw [hXn]; unfold pid; omega
    have l3 : pid jb.next 3 < X.next := by rw [hXn]; unfold pid; omega
    have l4 : pid jb.next 4 < X.next := by rw [hXn]; unfold pid; omega
    have l6 : pid jb.next 6 < X.next := by rw [hXn]; unfold pid; omega
    have ne : ∀ p q, p ≠ q → (pid jb.next p = pid jb.next q) = False := fun p q h => by simp [pid, h]
    have n06 := ne 0 6 (by decide)
    have n26 := ne 2 6 (by decide)
    have n36 := ne 3 6 (by decide)
    have n46 := ne 4 6 (by decide)
    have n62 := ne 6 2 (by decide)
    have n63 := ne 6 3 (by decide)
    have n23 := ne 2 3 (by decide)
    have n43 := ne 4 3 (by decide)
    have n03 := ne 0 3 (by decide)
    show jwp _ _ _ _ (Pg.ext (sJ n c jb a obj) l) _
    rw [← hX]
    rw [show (ext jb [AObj.cells 24 n.enc, AObj.cells 27 c.enc, AObj.cells 25 [AV.sl Tok.nil 0 []], AObj.map [], AObj.cells 53 [AV.mp (pid jb.next 3)], AObj.cells 27 c.enc]).next = pid jb.next 6 from rfl]
    (try simp only[↓jr,jw,seval,rndA,rndQ,get_last,set_last,ext_get_old,ext_set_old,l0,l2,l3,l4,l6,n06,n26,n36,n46,n62,n63,n23,n43,n03,g0,g2,g3,g4,g6,ext_set_last,sg_ne,sg_eq,set_next])
    refine JCs.ret (s_Text n.cs.length n.rs.length n rfl rfl hsh.2.1 hsh.2.2 hn.1 hn.2.1 x _ hx hxs hxn) ?_
    have hg1 : (Pg.ext (X.set (pid jb.next 6) busy) (l ++ [.cells 27 x.enc])).get (pid jb.next 3) = some (.map (mapS (a.map (strC n)))) := by (try simp only[↓jr,jw,seval,rndA,rndQ,get_last,set_last,ext_get_old,ext_set_old,l0,l2,l3,l4,l6,n06,n26,n36,n46,n62,n63,n23,n43,n03,g0,g2,g3,g4,g6,ext_set_last,sg_ne,sg_eq,set_next])
    (try simp only[↓jr,jw,seval,rndA,rndQ,get_last,set_last,ext_get_old,ext_set_old,l0,l2,l3,l4,l6,n06,n26,n36,n46,n62,n63,n23,n43,n03,g0,g2,g3,g4,g6,ext_set_last,sg_ne,sg_eq,set_next,lookup_mapS hg1])
    refine wq.intro (fun q1 => ?_) (fun q1 => ?_)
    · (try simp only[↓jr,jw,seval,rndA,rndQ,get_last,set_last,ext_get_old,ext_set_old,l0,l2,l3,l4,l6,n06,n26,n36,n46,n62,n63,n23,n43,n03,g0,g2,g3,g4,g6,ext_set_last,sg_ne,sg_eq,set_next])
      rw [set_set, set_same g6]
      exact ⟨BOO true, _, .inl JDropH.rnd0, SubB.v, rfl, by rw [ded, if_pos q1, ← hX]⟩
    · (try simp only[↓jr,jw,seval,rndA,rndQ,get_last,set_last,ext_get_old,ext_set_old,l0,l2,l3,l4,l6,n06,n26,n36,n46,n62,n63,n23,n43,n03,g0,g2,g3,g4,g6,ext_set_last,sg_ne,sg_eq,set_next])
      refine JMAPUP.new hg1 q1 ?_
      (try simp only[↓jr,jw,seval,rndA,rndQ,get_last,set_last,ext_get_old,ext_set_old,l0,l2,l3,l4,l6,n06,n26,n36,n46,n62,n63,n23,n43,n03,g0,g2,g3,g4,g6,ext_set_last,sg_ne,sg_eq,set_next])
      refine JORC.subs ?_
      (try simp only[↓jr,jw,seval,rndA,rndQ,get_last,set_last,ext_get_old,ext_set_old,l0,l2,l3,l4,l6,n06,n26,n36,n46,n62,n63,n23,n43,n03,g0,g2,g3,g4,g6,ext_set_last,sg_ne,sg_eq,set_next])
      refine JDC.use (s_Copied x _ hx hxn) ?_
      (try simp only[↓jr,jw,seval,rndA,rndQ,get_last,set_last,ext_get_old,ext_set_old,l0,l2,l3,l4,l6,n06,n26,n36,n46,n62,n63,n23,n43,n03,g0,g2,g3,g4,g6,ext_set_last,sg_ne,sg_eq,set_next])
      have ol2 : pid jb.next 2 < pid X.next (l.length + 1) := Nat.lt_of_lt_of_le l2 (by unfold pid; omega)
      refine JDRAW.oc (by (try simp only[↓jr,jw,seval,rndA,rndQ,get_last,set_last,ext_get_old,ext_set_old,l0,l2,l3,l4,l6,n06,n26,n36,n46,n62,n63,n23,n43,n03,g0,g2,g3,g4,g6,ext_set_last,sg_ne,sg_eq,set_next,jq]) <;> (repeat' (first | exact trivial | refine And.intro ?_ ?_ | exact ol2 | exact Nat.lt_succ_self _ | exact Nat.le_refl _ | exact Nat.le_succ _ | (intro ob q; cases q)))) ?_
      refine ⟨sk jb a.length, a.length, encs Con.enc a, .own X.tnext 0 3, _, x.enc, pid jb.next 2, 25, .sl (sk jb a.length) a.length (encs Con.enc a), rfl, rfl, rfl, rfl, rfl, rfl, rfl, (by (try simp only[↓jr,jw,seval,rndA,rndQ,get_last,set_last,ext_get_old,ext_set_old,l0,l2,l3,l4,l6,n06,n26,n36,n46,n62,n63,n23,n43,n03,g0,g2,g3,g4,g6,ext_set_last,sg_ne,sg_eq,set_next])), ?_⟩
      (try simp only[↓jr,jw,seval,rndA,rndQ,get_last,set_last,ext_get_old,ext_set_old,l0,l2,l3,l4,l6,n06,n26,n36,n46,n62,n63,n23,n43,n03,g0,g2,g3,g4,g6,ext_set_last,sg_ne,sg_eq,set_next])
      have hded : ded n a x = a ++ [x] := by rw [ded, if_neg q1]
      have hXt : ∀ t, X.tok t = (sb jb a.length).tok t := fun t => by rw [hX]; rfl
      have hXn2 : X.tnext = (sb jb a.length).tnext := by rw [hX]; rfl
      by_cases z : a = []
      · subst z
        refine JAPP.new1 (Con.len x) d_con9 (by omega) ?_
        (try simp only[↓jr,jw,seval,rndA,rndQ,get_last,set_last,ext_get_old,ext_set_old,l0,l2,l3,l4,l6,n06,n26,n36,n46,n62,n63,n23,n43,n03,g0,g2,g3,g4,g6,ext_set_last,sg_ne,sg_eq,set_next])
        rw [hX]
        refine subs_end (busy := busy) hded sJ_next ?_ ?_ (fun o => rfl) ?_ (by simp [encs])
        · show (if 0 + 1 = 0 then jb.tnext else jb.tnext + 2) ≤ jb.tnext + 1 + 1; rw [if_neg (by omega)]; exact Nat.le_refl _
        · intro t ht
          rw [sb_tok (by omega)]
          show (if t = jb.tnext + 1 then some 1 else if t = jb.tnext then some 1 else jb.tok t) = _
          rfl
        · rfl
      · have zl : a.length ≠ 0 := fun h => z (List.length_eq_zero_iff.1 h)
        rw [show sk jb a.length = .own (jb.tnext + 1) 0 3 from if_neg zl]
        refine JAPP.more1 (encs_length Con.len a) (Con.len x) d_con9 (by omega) (by omega) ?_ ?_
        · show (if jb.tnext + 1 = X.tnext then some 1 else X.tok (jb.tnext + 1)) = some a.length
          rw [hXn2, sb_tnext, if_neg zl, if_neg (by omega), hXt, sb_tok zl, if_pos rfl]
        (try simp only[↓jr,jw,seval,rndA,rndQ,get_last,set_last,ext_get_old,ext_set_old,l0,l2,l3,l4,l6,n06,n26,n36,n46,n62,n63,n23,n43,n03,g0,g2,g3,g4,g6,ext_set_last,sg_ne,sg_eq,set_next])
        rw [hX]
        have hsb : (sb jb (a.length + 1)).tnext = (sb jb a.length).tnext := by rw [sb_tnext, sb_tnext, if_neg zl, if_neg (by omega)]
        refine subs_end (busy := busy) hded sJ_next ?_ ?_ (fun o => rfl) ?_ (by rw [encs_append]; simp [encs])
        · rw [hsb]; exact Nat.le_succ _
        · intro t ht
          rw [sb_tok (by omega)]
          show (if t = jb.tnext + 1 then some (a.length + 1) else if t = (sb jb a.length).tnext then some 1 else (sb jb a.length).tok t) = _
          rw [hsb] at ht
          rw [sb_tok zl]
          by_cases e1 : t = jb.tnext + 1
          · rw [if_pos e1, if_pos e1]
          · rw [if_neg e1, if_neg e1, if_neg (by omega), if_neg e1]
        · exact (if_neg (by omega)).symm
  refine JC.mono (Q := fun q j' => ∃ x, q = .ret x ∧ j' = sJ n c jb (outL n (pre c)) obj) ?_ ?_
  · have := s_All1 (G := GG m) (pid jb.next 6) c _ _ (pid jb.next 5) F (by unfold pid; simp) (by unfold pid; simp) (by exact ext_get_new sb_next) hr hc
    exact this
  · rintro q j' ⟨x, rfl, rfl⟩
    refine ⟨x, rfl, ext_get_new sb_next, ?_⟩
    rw [show (ext jb [AObj.cells 24 n.enc, AObj.cells 27 c.enc, AObj.cells 25 [AV.sl Tok.nil 0 []], AObj.map [], AObj.cells 53 [AV.mp (pid jb.next 3)], AObj.cells 27 c.enc]).next = pid jb.next 6 from rfl, ext_set_new sb_next (by simp)]
    (try simp only[↓jr,jw,seval,sb_next])
    have hb1 : jb.tnext = j.tnext + 1 := by rw [hjb]; rfl
    have hj : ∀ (k : Nat) (l : List AObj), JDropH (Pg.ext j []) (Pg.ext (sb jb k) l) j := fun k l => by
      refine (JDropH.back (j := j) (j1 := sb jb k) ⟨by rw [sb_next, hjn], fun o ho => by rw [sb_get, hjb]; rfl, by rw [sb_tnext]; split <;> omega, fun t ht => ?_⟩).of_ext
      by_cases z : k = 0
      · subst z; rw [hjb]; show (if t = j.tnext then some 1 else j.tok t) = _; rw [if_neg (by omega)]
      · rw [sb_tok z, if_neg (by omega), if_neg (by omega), hjb]; show (if t = j.tnext then some 1 else j.tok t) = _; rw [if_neg (by omega)]
    rw [q]
    exact JFIN.ret (hj _ _) (SubB.tup ⟨SubB.sl rfl (SubBs.pure (encs_pur Con.pur _)), SubB.v, True.intro⟩)
end
end Go.Proofs.YtcajjicdbphkpaaGreatDoor.Pg
