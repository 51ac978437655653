/-
  Knowledge bases read back from cells; strings.Split; copies of rows of strings.
-/
import Derived.Test.YtcjlpklgnknpgaaGreatDoorWj
import Derived.Lib.SplitLaws
set_option linter.unusedVariables false
set_option linter.unusedSimpArgs false
set_option maxRecDepth 100000
set_option maxHeartbeats 8000000
namespace Go.Proofs.YtcjlpklgnknpgaaGreatDoor.Pg
open Go Go.Proofs Go.Shelf Go.RowKit
section
variable {no nt : Nat}
theorem decC_sub : ∀ (k : Nat) (cs : List AV) (l : List Con), decC k cs = some l → SubBs no nt cs (Con.encs l) ∧ Con.oks l
 | 0, cs, l, e => by cases e
 | k + 1, cs, l, e => by
  simp only [decC] at e
  split at e
  ·cases e; exact ⟨trivial, trivial⟩
  ·rename_i o n tk mm ds r
   split at e
   ·rename_i h
    obtain ⟨x, e1, e⟩ := xo_some e
    split at e
    ·rename_i hx
     obtain ⟨y, e2, e⟩ := xo_some e
     cases e
     obtain ⟨a1, a2⟩ := decC_sub k ds x e1
     obtain ⟨b1, b2⟩ := decC_sub k r y e2
     refine ⟨?_, ⟨⟨h.1, h.2.1⟩, ⟨h.2.2.1, h.2.2.2.1⟩, by omega, a2⟩, b2⟩
     simp only [Con.encs, Con.enc, List.cons_append, List.nil_append]
     exact ⟨SubB.v, SubB.v, SubB.sl hx.symm a1, b1⟩
    ·cases e
   ·cases e
  ·cases e
theorem decC_one {k : Nat} {cs : List AV} {c : Con} (e : decC k cs = some [c]) : SubBs no nt cs c.enc ∧ c.ok := by
 obtain ⟨h1, h2⟩ := decC_sub (no := no) (nt := nt) k cs _ e
 simp only [Con.encs, List.append_nil] at h1
 exact ⟨h1, h2.1⟩
theorem decI_sub : ∀ (k : Nat) (cs : List AV) (l : List Inc), decI k cs = some l → SubBs no nt cs (encs Inc.enc l) ∧ ∀ x ∈ l, (x.sub.ok ∧ x.sup.ok) ∧ x.sub.nodes ≤ 4000 ∧ x.sup.nodes ≤ 4000
 | 0, cs, l, e => by cases e
 | k + 1, cs, l, e => by
  simp only [decI] at e
  split at e
  ·cases e; exact ⟨trivial, fun x h => by cases h⟩
  ·obtain ⟨x, e1, e⟩ := xo_some e
   obtain ⟨y, e2, e⟩ := xo_some e
   obtain ⟨rs, e3, e⟩ := xo_some e
   split at e
   ·split at e
    ·rename_i h
     cases e
     obtain ⟨a1, a2⟩ := decC_one (no := no) (nt := nt) e1
     obtain ⟨b1, b2⟩ := decC_one (no := no) (nt := nt) e2
     obtain ⟨c1, c2⟩ := decI_sub k _ _ e3
     refine ⟨?_, fun z hz => ?_⟩
     ·have := SubBs.append a1 (SubBs.append b1 c1)
      simpa [encs, Inc.enc] using this
     ·rcases List.mem_cons.1 hz with rfl | hz
      ·exact ⟨⟨a2, b2⟩, h⟩
      ·exact c2 z hz
    ·cases e
   ·cases e
  ·cases e
theorem decR_sub : ∀ (cs : List AV) (l : List RIn), decR cs = some l → SubBs no nt cs (encs RIn.enc l) ∧ ∀ x ∈ l, R64 x.sub ∧ R64 x.sup := by
 intro cs
 fun_induction decR cs with
 | case1 => intro l e; cases e; exact ⟨trivial, fun x h => by cases h⟩
 | case2 a b r h ih =>
  intro l e
  obtain ⟨rs, e1, e⟩ := xo_some e
  cases e
  obtain ⟨c1, c2⟩ := ih rs e1
  refine ⟨⟨SubB.v, SubB.v, c1⟩, fun z hz => ?_⟩
  rcases List.mem_cons.1 hz with rfl | hz
  ·unfold R64; simp only; omega
  ·exact c2 z hz
 | case3 => intro l e; cases e
 | case4 => intro l e; cases e
theorem decF_sub : ∀ (k : Nat) (cs : List AV) (l : List Fac), decF k cs = some l → SubBs no nt cs (encs Fac.enc l) ∧ ∀ x ∈ l, (R64 x.ind ∧ x.con.ok) ∧ x.con.nodes ≤ 4000
 | 0, cs, l, e => by cases e
 | k + 1, cs, l, e => by
  simp only [decF] at e
  split at e
  ·cases e; exact ⟨trivial, fun x h => by cases h⟩
  ·obtain ⟨x, e1, e⟩ := xo_some e
   obtain ⟨rs, e3, e⟩ := xo_some e
   split at e
   ·split at e
    ·rename_i h
     cases e
     obtain ⟨a1, a2⟩ := decC_one (no := no) (nt := nt) e1
     obtain ⟨c1, c2⟩ := decF_sub k _ _ e3
     refine ⟨?_, fun z hz => ?_⟩
     ·have := SubBs.append a1 c1
      exact ⟨SubB.v, (this : SubBs no nt _ (_ ++ encs Fac.enc rs))⟩
     ·rcases List.mem_cons.1 hz with rfl | hz
      ·exact ⟨⟨by unfold R64; simp only; omega, a2⟩, h.2⟩
      ·exact c2 z hz
    ·cases e
   ·cases e
  ·cases e
theorem decLn_sub : ∀ (cs : List AV) (l : List Lnk), decLn cs = some l → SubBs no nt cs (encs Lnk.enc l) ∧ ∀ x ∈ l, R64 x.role ∧ R64 x.fr ∧ R64 x.to := by
 intro cs
 fun_induction decLn cs with
 | case1 => intro l e; cases e; exact ⟨trivial, fun x h => by cases h⟩
 | case2 a b c r h ih =>
  intro l e
  obtain ⟨rs, e1, e⟩ := xo_some e
  cases e
  obtain ⟨c1, c2⟩ := ih rs e1
  refine ⟨⟨SubB.v, SubB.v, SubB.v, c1⟩, fun z hz => ?_⟩
  rcases List.mem_cons.1 hz with rfl | hz
  ·unfold R64; simp only; omega
  ·exact c2 z hz
 | case3 => intro l e; cases e
 | case4 => intro l e; cases e
theorem decB_sub {cs : List AV} {b : Bas} (e : decB cs = some b) : SubBs no nt cs b.enc ∧ b.ok ∧ b.few := by
 unfold decB at e
 split at e
 ·obtain ⟨n, e1, e⟩ := xo_some e
  obtain ⟨is, e2, e⟩ := xo_some e
  obtain ⟨rs, e3, e⟩ := xo_some e
  obtain ⟨fs, e4, e⟩ := xo_some e
  obtain ⟨ls, e5, e⟩ := xo_some e
  split at e
  ·rename_i h
   cases e
   obtain ⟨a1, a2, a3⟩ := decN_sub (no := no) (nt := nt) e1
   obtain ⟨b1, b2⟩ := decI_sub (no := no) (nt := nt) _ _ _ e2
   obtain ⟨c1, c2⟩ := decR_sub (no := no) (nt := nt) _ _ e3
   obtain ⟨d1, d2⟩ := decF_sub (no := no) (nt := nt) _ _ _ e4
   obtain ⟨f1, f2⟩ := decLn_sub (no := no) (nt := nt) _ _ e5
   obtain ⟨h1, h2, h3, h4, h5, h6, h7, h8, _⟩ := h
   refine ⟨?_, ⟨a2, a3, by simp only; omega, by simp only; omega, by simp only; omega, by simp only; omega, fun x hx => (b2 x hx).1, c2, fun x hx => (d2 x hx).1, f2⟩, fun x hx => ?_, fun x hx => ?_⟩
   ·exact SubBs.append (ys := [_, _, _, _]) a1 ⟨SubB.sl h1.symm b1, SubB.sl h2.symm c1, SubB.sl h3.symm d1, SubB.sl h4.symm f1, trivial⟩
   ·have := (b2 x hx).2; omega
   ·have := (d2 x hx).2; omega
  ·cases e
 ·cases e
end
section
variable {m : GM} {G : Nat → Option (List AV)}
def splitL (s t : ByteArray) : List ByteArray := Lib.splitB t 0 (Lib.countB s t) s
theorem strs_vs {μ : Mu} {w : World} : ∀ l : List ByteArray, Vs μ w (strs l) (l.map Value.string)
 | [] => rfl
 | s :: l => ⟨_, _, rfl, ⟨rfl, rfl⟩, strs_vs l⟩
theorem s_Split (s t : ByteArray) (hs : s.size < 4294967281) (ht : 1 ≤ t.size) (j : JH) : JC Tryz.prog (GG m) 40 [STR s, STR t] j (RET (.sl .none (splitL s t).length (strs (splitL s t))) j) := by
 rintro h rfl B0 μ w vs r hv
 simp only [Vs, V] at hv
 obtain ⟨u, us', rfl, ⟨_, rfl⟩, u2, us2, rfl, ⟨_, rfl⟩, rfl⟩ := hv
 have hg : Cells μ w [I64 m.n] 1 0 := r.glob _ _ (by simp [GG])
 simp only [Cells, V] at hg
 obtain ⟨_, ⟨u, hu, _, rfl⟩, _⟩ := hg
 refine (Tryz.strings_Split s t m.n w hs hu ht).mono ?_
 rintro e w' ⟨rfl, rfl⟩
 have hlen : (splitL s t).length = Lib.countB s t + 1 := Lib.splitB_all t ht 0 _ s rfl
 have st0 := Sd.step_more (w' := w.alloc (.cells ((splitL s t).map Value.string).toArray 9)) r (fun b hb => heap_alloc_old w _ hb) (by simp) ⟨rfl, rfl, rfl⟩
 have st := Sd.step_com st0 (b := w.heap.size) (Nat.le_refl _) (by simp) (fun o e => by have := r.obj_lt e; omega) (fun t i e q => by have := r.tok_lt e; omega)
 refine ⟨.ret (.sl .none (splitL s t).length (strs (splitL s t))), h, ⟨rfl, rfl⟩, _, st, _, rfl, ?_⟩
 refine ⟨some ⟨w.heap.size, 0, none⟩, Lib.countB s t + 1, by rw [hlen], by omega, fun _ => ⟨w.heap.size, 0, rfl, Sd.cells_of (μ := { μ with com := fun x off => μ.com x off ∨ x = w.heap.size }) (fun off => Or.inr rfl) _ ((splitL s t).map Value.string) 0 (strs_vs _) ?_⟩⟩
 intro i u hi
 have e1 := heap_alloc_new w (.cells ((splitL s t).map Value.string).toArray 9)
 show (w.alloc (.cells ((splitL s t).map Value.string).toArray 9)).cell? ⟨w.heap.size, 0 + i, none⟩ = some u
 rw [cell_row e1, Nat.zero_add, List.getElem?_toArray]
 exact hi
theorem JAPP.can0 {j0 j : JH} {objs : List AObj} {es bytes n m : Nat} {tok tok' : Tok} {cs cs' : List AV} {K : AV → JH → Prop} (h : CanApp j0 j tok es n) (ht : TokExt j0 j)
  (h1 : cs.length = n * es) (h2 : cs'.length = m * es) (h3 : cs'.all AV.one = true) (h4 : (n + m) * bytes ≤ 140737488355328) (h5 : n + m ≤ 9223372036854775807)
  (k : ∀ tok1 j1, CanApp j0 j1 tok1 es (n + m) → TokExt j0 j1 → j.tnext ≤ j1.tnext → K (.sl tok1 (n + m) (cs ++ cs')) (ext j1 objs)) : @JAPP (ext j objs) es bytes (.sl tok n cs) (.sl tok' m cs') ⟨K⟩ := by
 by_cases hm : m = 0
 ·subst hm
  have hcs : cs' = [] := List.eq_nil_of_length_eq_zero (by rw [h2, Nat.zero_mul])
  subst hcs
  refine ⟨⟨h1, h2, h3, h4, h5⟩, fun _ => ?_, fun e => absurd rfl e⟩
  have := k tok j h ht (Nat.le_refl _)
  rwa [Nat.add_zero, List.append_nil] at this
 ·exact JAPP.can h ht h1 h2 h3 h4 h5 hm k
noncomputable def ir84 : IFn := ⟨8, [⟨2, none⟩], (.seq (.reg [oA 2 (.mov (.k (.sl .nil 0 [])))]) (.seq (.seq (.reg [oA 3 (kM 0), oA 4 (.gen ⟨(some 4), (.binOp .eql 22 (.tmp 3) (.const (.slice none 0 0)) 22), 4, "slices.go:357", #[⟨0, .data⟩], none⟩)]) (.cond (.r 4) (.seq (.reg [oA 2 (.mov (.k (.sl .nil 0 [])))]) .ret) .skip)) (.seq (.reg [oA 5 (.bsl 0 1 [.v (.string ⟨#[]⟩)] []), oA 6 (kM 0), oA 7 (.app 1 16 (.r 5) (.r 6)), oA 2 (kM 7)]) .ret)))⟩
theorem c84 : cfunc Tryz.prog 84 = some ir84 := by kernel_rfl
theorem k84 : okIR (max 1 ir84.n) ir84.ir = true := by decide +kernel
theorem s_CloneS (l : List ByteArray) (hl : l.length ≤ 1000000) (j : JH) : JC Tryz.prog G 84 [.sl .none l.length (strs l)] j (RET (.sl .none l.length (strs l)) j) := by
 refine JC.run hmix c84 (by exact k84) ?_
 (try simp only[↓jr,jw,seval,ir84])
 refine JGEN.nil (ne := false) (t := 3) (by kernel_rfl) ?_
 intro b hb
 (try simp only[↓jr,jw,seval])
 cases b with
 | true =>
  have hn : l = [] := by
   cases l with
   | nil => rfl
   | cons x l => exact absurd (hb rfl) (by simp [strs])
  subst hn
  (try simp only[↓jr,jw,seval])
  refine JFIN.rb ?_
  exact SubB.sl rfl (SubBs.pure rfl)
 | false =>
  (try simp only[↓jr,jw,seval])
  have hc : CanApp j (j.pushTok 0) (.own j.tnext 0 1) 1 0 := .inr ⟨j.tnext, Nat.le_refl _, Nat.lt_succ_self _, rfl, by simp [JH.pushTok]⟩
  have ht : TokExt j (j.pushTok 0) := (TokExt.refl j).push 0
  refine JAPP.can0 hc ht rfl (by simp [strs]) (by simp [strs]; intros; rfl) (by omega) (by omega) ?_
  intro tok1 j1 hcan ht3 hle
  (try simp only[↓jr,jw,seval])
  exact JFIN.ret (JDropH.back ht3).of_ext (SubB.sl rfl (SubBs.pure (strs_pur _)))
end
end Go.Proofs.YtcjlpklgnknpgaaGreatDoor.Pg
