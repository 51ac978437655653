/-
  Pg, part 11: the plainer form says no more than the code.
-/
import Derived.Test.YtkcbhebbjpiibaaDoorPgIr
set_option linter.unusedVariables false
set_option linter.unusedSimpArgs false
set_option linter.unusedSectionVars false
namespace Go.Proofs.YtkcbhebbjpiibaaDoor.Pg
open Go
section

section
variable {P : Program} {G : Nat → Option (List AV)} {fr : Fr} {h : AH} {o : Oper}

theorem alit_bin {op : BinOp} {t yt : TypeId} {x y : Operand} {a b r : Value} {z : AV} (ho : o.op = .binOp op t x y yt) (hx : aev G fr x = some (.v a)) (hy : aev G fr y = some (.v b))
    (hr : pureRun P (do eqGuard op t x y a b; binOp op t a b) = some r) (hz : ofV 64 r = some z) : alit P G fr o = some z := by
  unfold alit
  have h1 : o.op.operands.all (fun x => ((aev G fr x).bind lit).isSome) = true := by
    simp only [ho, Op.operands]
    simp [hx, hy, lit]
  rw [if_pos h1]
  have h2 : ((aev G fr x).bind lit).getD undef = a := by simp [hx, lit]
  have h3 : ((aev G fr y).bind lit).getD undef = b := by simp [hy, lit]
  simp only [execOp, ho, h2, h3]
  rw [pureRun_bind, hr]
  simp only [Option.bind_some, pureRun_pure, hz]
theorem ibin_run {op : BinOp} {t : TypeId} {x y : Operand} {a b : AV} {z : AV} (e : ibin op a b = some z) :
    ∃ u v r, a = .v u ∧ b = .v v ∧ pureRun P (do eqGuard op t x y u v; binOp op t u v) = some r ∧ ofV 64 r = some z := by
  unfold ibin at e
  split at e
  · rename_i k a k' b
    suffices hh : ∃ r, pureRun P (do eqGuard op t x y (.int k a) (.int k' b); binOp op t (.int k a) (.int k' b)) = some r ∧ ofV 64 r = some z from
      let ⟨r, h1, h2⟩ := hh; ⟨_, _, r, rfl, rfl, h1, h2⟩
    have hg : ∀ op, eqGuard op t x y (.int k a) (.int k' b) = pure () := fun op => by
      unfold eqGuard
      cases op <;> rfl
    rw [hg]
    by_cases hkk : k = k'
    · subst hkk
      simp only [pureRun_bind, pureRun_pure, Option.bind_some]
      cases op <;> simp only [if_true, reduceCtorEq] at e
      all_goals simp only [binOp, ne_eq, not_true_eq_false, if_false]
      all_goals first
        | (cases e; exact ⟨_, rfl, rfl⟩)
        | (split at e
           · first | (cases e; done) | (cases e; rename_i hb; refine ⟨.int k _, ?_, rfl⟩; simp only [Op.shift]; rw [if_neg (by omega)]; rfl)
           · first | (cases e; done) | (cases e; rename_i hb; refine ⟨.int k _, ?_, rfl⟩; simp only [Op.intDiv, hb, if_false]; rfl))
    · cases op <;> simp only [hkk, if_false, reduceCtorEq] at e
      all_goals
        split at e
        · first | (cases e; done) | (cases e; rename_i hb; refine ⟨.int k _, ?_, rfl⟩; simp only [pureRun_bind, pureRun_pure, Option.bind_some, binOp, Op.shift]; rw [if_neg (by omega)]; rfl)
        · cases e
  · rename_i a b
    suffices hh : ∃ r, pureRun P (do eqGuard op t x y (.string a) (.string b); binOp op t (.string a) (.string b)) = some r ∧ ofV 64 r = some z from
      let ⟨r, h1, h2⟩ := hh; ⟨_, _, r, rfl, rfl, h1, h2⟩
    have hg : ∀ op, eqGuard op t x y (.string a) (.string b) = pure () := fun op => by
      unfold eqGuard
      cases op <;> rfl
    rw [hg]
    cases op <;> simp only [reduceCtorEq] at e
    · split at e
      · rename_i hb
        cases e
        refine ⟨.string (a ++ b), ?_, rfl⟩
        simp only [pureRun_bind, pureRun_pure, Option.bind_some, binOp, Op.stringOp]
        rw [if_neg (by
          have : IntKind.i64.max = 9223372036854775807 := rfl
          rw [this]; omega)]
        rfl
      · cases e
    · cases e
      refine ⟨.bool _, ?_, rfl⟩
      simp only [pureRun_bind, pureRun_pure, Option.bind_some, binOp, Op.stringOp]
      have : (a.toList == b.toList) = decide (a = b) := by
        by_cases hab : a = b
        · subst hab; simp
        · simp [hab, ByteArray.toList_eq]
          intro hc; exact hab (by cases a; cases b; simp_all)
      rw [this]
    · cases e
      refine ⟨.bool _, ?_, rfl⟩
      simp only [pureRun_bind, pureRun_pure, Option.bind_some, binOp, Op.stringOp]
      have : (a.toList == b.toList) = decide (a = b) := by
        by_cases hab : a = b
        · subst hab; simp
        · simp [hab, ByteArray.toList_eq]
          intro hc; exact hab (by cases a; cases b; simp_all)
      rw [this]
  · cases e

theorem alit_un {op : UnOp} {t : TypeId} {x : Operand} {a r : Value} {z : AV} (ho : o.op = .unOp op t x) (hx : aev G fr x = some (.v a))
    (hr : pureRun P (Op.unary op a) = some r) (hz : ofV 64 r = some z) : alit P G fr o = some z := by
  unfold alit
  have h1 : o.op.operands.all (fun x => ((aev G fr x).bind lit).isSome) = true := by
    simp only [ho, Op.operands]
    simp [hx, lit]
  rw [if_pos h1]
  have h2 : ((aev G fr x).bind lit).getD undef = a := by simp [hx, lit]
  simp only [execOp, ho, h2]
  rw [pureRun_bind, hr]
  simp only [Option.bind_some, pureRun_pure, hz]
theorem alit_cvt {s d : TypeId} {x : Operand} {a r : Value} {z : AV} (ho : o.op = .convert s d x) (hx : aev G fr x = some (.v a))
    (hr : pureRun P (convert s d a) = some r) (hz : ofV 64 r = some z) : alit P G fr o = some z := by
  unfold alit
  have h1 : o.op.operands.all (fun x => ((aev G fr x).bind lit).isSome) = true := by
    simp only [ho, Op.operands]
    simp [hx, lit]
  rw [if_pos h1]
  have h2 : ((aev G fr x).bind lit).getD undef = a := by simp [hx, lit]
  simp only [execOp, ho, h2]
  rw [pureRun_bind, hr]
  simp only [Option.bind_some, pureRun_pure, hz]
theorem ibool_eq {x : AV} {t : Bool} (e : ibool x = some t) : x = .v (.bool t) := by
  unfold ibool at e
  split at e
  · cases e; rfl
  · cases e
theorem aint_eq {x : AV} {p : IntKind × Int} (e : aint x = some p) : x = .v (.int p.1 p.2) := by
  unfold aint at e
  split at e
  · cases e; rfl
  · cases e
theorem pureRun_underlying {t : TypeId} {d : TypeDesc} (e : P.underlying t = some d) : pureRun P (underlying t) = some d := by
  unfold underlying
  rw [pureRun_bind]
  show (some P).bind _ = _
  simp only [Option.bind_some, e, pureRun_pure]

theorem alit_mx {c : Call} {bb : Builtin} {x y : Operand} {k k' : IntKind} {a b n : Int} (ho : o.op = .call c) (hcal : c.callee = .builtin bb) (hargs : c.args.toList = [x, y]) (hx : aev G fr x = some (.v (.int k a))) (hy : aev G fr y = some (.v (.int k' b)))
    (hr : ∀ cs, pureRun P (builtin bb c.argTypes o.type cs #[.int k a, .int k' b]) = some (.value (.int k n))) : alit P G fr o = some (.v (.int k n)) := by
  unfold alit
  have hops : o.op.operands = #[x, y] := by
    simp only [ho, Op.operands, Call.operands, hcal]
    apply Array.ext'; simpa using hargs
  have h1 : o.op.operands.all (fun x => ((aev G fr x).bind lit).isSome) = true := by
    rw [hops]; simp [hx, hy, lit]
  rw [if_pos h1]
  have h2 : ((aev G fr x).bind lit).getD undef = .int k a := by simp [hx, lit]
  have h3 : ((aev G fr y).bind lit).getD undef = .int k' b := by simp [hy, lit]
  have h4 : c.args.map (fun x => ((aev G fr x).bind lit).getD undef) = #[.int k a, .int k' b] := by
    apply Array.ext'; rw [Array.toList_map, hargs]; simp only [List.map_cons, List.map_nil, h2, h3]
  simp only [execOp, ho, resolve, hcal, h4, pureRun_bind, pureRun_pure, Option.bind_some, invoke, hr, ofV, plain]
  rfl
theorem cop_sound {i : I} {K : AOut → AH → Prop} (hc : cop P o = some i) (hs : istep P G fr h i K) : Sim P G fr h o K := by
  unfold cop at hc
  split at hc
  · rename_i x ho
    simp only [Option.bind_eq_bind, Option.bind_eq_some_iff, Option.pure_def, Option.some.injEq] at hc
    obtain ⟨x', hx, rfl⟩ := hc
    obtain ⟨y, hy, k⟩ := wv_ex hs
    exact Sim.p (by simp [kindOf, ho]) (by simp only [pop, ho]; rw [X.of_ev hx]; exact hy) k
  · rename_i x ho
    simp only [Option.bind_eq_bind, Option.bind_eq_some_iff, Option.pure_def, Option.some.injEq] at hc
    obtain ⟨x', hx, rfl⟩ := hc
    obtain ⟨y, hy, k⟩ := wv_ex hs
    exact Sim.p (by simp [kindOf, ho]) (by simp only [pop, ho]; rw [X.of_ev hx]; exact hy) k
  · rename_i c a b ho
    simp only [Option.bind_eq_bind, Option.bind_eq_some_iff, Option.pure_def, Option.some.injEq] at hc
    obtain ⟨c', hcx, a', ha, b', hb, rfl⟩ := hc
    obtain ⟨z, hz, k⟩ := wv_ex hs
    obtain ⟨t, ht, k⟩ := wv_ex k
    rw [ibool_eq ht] at hz
    cases t with
    | true =>
      obtain ⟨y, hy, k⟩ := wv_ex (k.1 rfl)
      exact Sim.p (y := y) (by simp [kindOf, ho]) (by simp only [pop, ho, X.of_ev hcx, X.of_ev ha, X.of_ev hb, hz]; exact hy) k
    | false =>
      obtain ⟨y, hy, k⟩ := wv_ex (k.2 rfl)
      exact Sim.p (y := y) (by simp [kindOf, ho]) (by simp only [pop, ho, X.of_ev hcx, X.of_ev ha, X.of_ev hb, hz]; exact hy) k
  · rename_i op t x y yt ho
    have fin : (do pure (I.bin op (← X.of x) (← X.of y)) : Option I) = some i → Sim P G fr h o K := by
      intro hc
      simp only [Option.bind_eq_bind, Option.bind_eq_some_iff, Option.pure_def, Option.some.injEq] at hc
      obtain ⟨x', hx, y', hy, rfl⟩ := hc
      obtain ⟨a, ha, k⟩ := wv_ex hs
      obtain ⟨b, hb, k⟩ := wv_ex k
      obtain ⟨z, hz, k⟩ := wv_ex k
      obtain ⟨u, v, r, hu, hv, h1, h2⟩ := ibin_run (P := P) (t := t) (x := x) (y := y) hz
      rw [hu] at ha; rw [hv] at hb
      exact Sim.p (by simp [kindOf, ho]) (by simp only [pop, ho]; rw [alit_bin ho ((X.of_ev hx).trans ha) ((X.of_ev hy).trans hb) h1 h2]) k
    split at hc
    · exact fin hc
    · exact fin hc
    · rename_i hu
      have fb : ∀ ne : Bool, o.op = .binOp (if ne then .neq else .eql) t x y yt → (do pure (I.beq ne (← X.of x) (← X.of y)) : Option I) = some i → Sim P G fr h o K := by
        intro ne ho hc
        simp only [Option.bind_eq_bind, Option.bind_eq_some_iff, Option.pure_def, Option.some.injEq] at hc
        obtain ⟨x', hx, y', hy, rfl⟩ := hc
        obtain ⟨u, ha, k⟩ := wv_ex hs
        obtain ⟨a, hba, k⟩ := wv_ex k
        obtain ⟨v, hb, k⟩ := wv_ex k
        obtain ⟨b, hbb, k⟩ := wv_ex k
        rw [ibool_eq hba] at ha; rw [ibool_eq hbb] at hb
        have hq : pureRun P (Op.equal t (.bool a) (.bool b)) = some (a == b) := by
          show pureRun P (Op.equalIn (9999 + 1) t (.bool a) (.bool b)) = _
          rw [Op.equalIn, pureRun_bind, pureRun_underlying hu]; rfl
        have hr : pureRun P (do eqGuard (if ne then .neq else .eql) t x y (.bool a) (.bool b); binOp (if ne then .neq else .eql) t (.bool a) (.bool b)) = some (.bool (if ne then !(a == b) else a == b)) := by
          cases ne with
          | true =>
            show pureRun P (binOp .neq t (.bool a) (.bool b)) = _
            simp only [binOp, pureRun_bind, hq, Option.bind_some, pureRun_pure, if_true]
          | false =>
            show pureRun P (binOp .eql t (.bool a) (.bool b)) = _
            simp only [binOp, pureRun_bind, hq, Option.bind_some, pureRun_pure]; rfl
        exact Sim.p (by simp [kindOf, ho]) (by simp only [pop, ho]; rw [alit_bin ho ((X.of_ev hx).trans ha) ((X.of_ev hy).trans hb) hr rfl]) k
      split at hc
      · exact fb false ho hc
      · exact fb true ho hc
      · cases hc
    · cases hc
  · rename_i t x ho
    simp only [Option.bind_eq_bind, Option.bind_eq_some_iff, Option.pure_def, Option.some.injEq] at hc
    obtain ⟨x', hx, rfl⟩ := hc
    obtain ⟨z, hz, k⟩ := wv_ex hs
    obtain ⟨t', ht, k⟩ := wv_ex k
    rw [ibool_eq ht] at hz
    exact Sim.p (by simp [kindOf, ho]) (by simp only [pop, ho]; exact alit_un ho ((X.of_ev hx).trans hz) rfl rfl) k
  · rename_i s d x ho
    split at hc
    · rename_i ks kd hs1 hd1
      simp only [Option.bind_eq_bind, Option.bind_eq_some_iff, Option.pure_def, Option.some.injEq] at hc
      obtain ⟨x', hx, rfl⟩ := hc
      obtain ⟨z, hz, k⟩ := wv_ex hs
      obtain ⟨p, hp, k⟩ := wv_ex k
      rw [aint_eq hp] at hz
      have hr : pureRun P (convert s d (.int p.1 p.2)) = some (.int kd (kd.wrap p.2)) := by
        simp only [convert, pureRun_bind, pureRun_underlying hs1, pureRun_underlying hd1, Option.bind_some, Conv.intToInt, pureRun_pure]
      exact Sim.p (by simp [kindOf, ho]) (by simp only [pop, ho]; exact alit_cvt ho ((X.of_ev hx).trans hz) hr rfl) k
    · cases hc
  · rename_i s x f ho
    split at hc
    · rename_i fields hu
      split at hc
      · rename_i fd hf
        split at hc
        · rename_i ti hi
          split at hc
          · cases hc
          · rename_i hsz
            simp only [Option.bind_eq_bind, Option.bind_eq_some_iff, Option.pure_def, Option.some.injEq] at hc
            obtain ⟨x', hx, rfl⟩ := hc
            obtain ⟨a, ha, k⟩ := wv_ex hs
            obtain ⟨z, hz, k⟩ := wv_ex k
            refine Sim.p (y := z) (by simp [kindOf, ho]) ?_ k
            simp only [pop, ho, X.of_ev hx, ha, afieldAddr, hu, hf, hi, hsz, if_false]
            unfold ifadr at hz
            split at hz <;> first | exact hz | cases hz
        · cases hc
      · cases hc
    · cases hc
  · rename_i t x f ho
    split at hc
    · rename_i fields hu
      split at hc
      · rename_i fd hf
        simp only [Option.bind_eq_bind, Option.bind_eq_some_iff, Option.pure_def, Option.some.injEq] at hc
        obtain ⟨row, hrow, x', hx, rfl⟩ := hc
        obtain ⟨a, ha, k⟩ := wv_ex hs
        obtain ⟨z, hz, k⟩ := wv_ex k
        refine Sim.p (y := z) (by simp [kindOf, ho]) ?_ k
        unfold ifld at hz
        split at hz
        · simp only [pop, ho, X.of_ev hx, ha, afield, hu, hf, acut_row hrow]; exact hz
        · cases hz
      · cases hc
    · cases hc
  · rename_i t x ix ho
    split at hc
    · rename_i e hu
      split at hc
      · rename_i ti hi
        simp only [Option.bind_eq_bind, Option.bind_eq_some_iff, Option.pure_def, Option.some.injEq] at hc
        obtain ⟨x', hx, i', hix, rfl⟩ := hc
        obtain ⟨a, ha, k⟩ := wv_ex hs
        obtain ⟨b, hb, k⟩ := wv_ex k
        obtain ⟨z, hz, k⟩ := wv_ex k
        refine Sim.p (y := z) (by simp [kindOf, ho]) ?_ k
        simp only [pop, ho, X.of_ev hx, X.of_ev hix, ha, hb]
        unfold iiasl at hz
        split at hz <;> first | (simp only [aindexAddr, aint, hu, hi]; exact hz) | cases hz
      · cases hc
    · rename_i n e hu
      split at hc
      · rename_i ti hi
        simp only [Option.bind_eq_bind, Option.bind_eq_some_iff, Option.pure_def, Option.some.injEq] at hc
        obtain ⟨x', hx, i', hix, rfl⟩ := hc
        obtain ⟨a, ha, k⟩ := wv_ex hs
        obtain ⟨b, hb, k⟩ := wv_ex k
        obtain ⟨z, hz, k⟩ := wv_ex k
        refine Sim.p (y := z) (by simp [kindOf, ho]) ?_ k
        simp only [pop, ho, X.of_ev hx, X.of_ev hix, ha, hb]
        unfold iiaar at hz
        split at hz <;> first | (simp only [aindexAddr, aint, hu, hi]; exact hz) | cases hz
      · cases hc
    · cases hc
  · rename_i t x ix ho
    split at hc
    · rename_i hu
      simp only [Option.bind_eq_bind, Option.bind_eq_some_iff, Option.pure_def, Option.some.injEq] at hc
      obtain ⟨x', hx, i', hix, rfl⟩ := hc
      obtain ⟨a, ha, k⟩ := wv_ex hs
      obtain ⟨b, hb, k⟩ := wv_ex k
      obtain ⟨z, hz, k⟩ := wv_ex k
      refine Sim.p (y := z) (by simp [kindOf, ho]) ?_ k
      simp only [pop, ho, X.of_ev hx, X.of_ev hix, ha, hb]
      unfold iidxs at hz
      split at hz <;> first | (simp only [aindex, aint, hu]; exact hz) | cases hz
    · rename_i n e hu
      split at hc
      · rename_i ie hie
        simp only [Option.bind_eq_bind, Option.bind_eq_some_iff, Option.pure_def, Option.some.injEq] at hc
        obtain ⟨row, hrow, x', hx, i', hix, rfl⟩ := hc
        obtain ⟨a, ha, k⟩ := wv_ex hs
        obtain ⟨b, hb, k⟩ := wv_ex k
        obtain ⟨z, hz, k⟩ := wv_ex k
        refine Sim.p (y := z) (by simp [kindOf, ho]) ?_ k
        simp only [pop, ho, X.of_ev hx, X.of_ev hix, ha, hb]
        unfold iaidx at hz
        split at hz
        · simp only [aindex, aint, hu, hie, acut_row hrow]; exact hz
        · cases hz
      · cases hc
    · cases hc
  · rename_i t x lo hi ho
    split at hc
    · rename_i e hu
      split at hc
      · rename_i ti hti
        simp only [Option.bind_eq_bind, Option.bind_eq_some_iff, Option.pure_def, Option.some.injEq] at hc
        obtain ⟨x', hx, lo', hlo, hi', hhi, rfl⟩ := hc
        obtain ⟨a, ha, k⟩ := wv_ex hs
        obtain ⟨b, hb, k⟩ := wv_ex k
        obtain ⟨c, hc, k⟩ := wv_ex k
        obtain ⟨z, hz, k⟩ := wv_ex k
        refine Sim.p (y := z) (by simp [kindOf, ho]) ?_ k
        simp only [pop, ho, X.of_ev hx, X.opt_ev hlo, X.opt_ev hhi, ha, hb, hc]
        cases a with
        | sl tok n cs =>
          simp only [islc] at hz
          simp only [aslice, hu, hti]
          cases h1 : abound n c n with
          | none => rw [h1] at hz; simp at hz
          | some m => rw [h1] at hz; exact hz
        | arr q off n =>
          simp only [islc] at hz
          simp only [aslice, hu, hti]
          cases h1 : abound n c n with
          | none => rw [h1] at hz; simp at hz
          | some m => rw [h1] at hz; exact hz
        | _ => simp [islc] at hz
      · cases hc
    · rename_i hu
      simp only [Option.bind_eq_bind, Option.bind_eq_some_iff, Option.pure_def, Option.some.injEq] at hc
      obtain ⟨x', hx, lo', hlo, hi', hhi, rfl⟩ := hc
      obtain ⟨a, ha, k⟩ := wv_ex hs
      obtain ⟨b, hb, k⟩ := wv_ex k
      obtain ⟨c, hc, k⟩ := wv_ex k
      obtain ⟨z, hz, k⟩ := wv_ex k
      refine Sim.p (y := z) (by simp [kindOf, ho]) ?_ k
      simp only [pop, ho, X.of_ev hx, X.opt_ev hlo, X.opt_ev hhi, ha, hb, hc]
      unfold islcs at hz
      split at hz
      · simp only [aslice, hu]; exact hz
      · cases hz
    · rename_i n e hu
      split at hc
      · rename_i ie hie
        simp only [Option.bind_eq_bind, Option.bind_eq_some_iff, Option.pure_def, Option.some.injEq] at hc
        obtain ⟨x', hx, lo', hlo, hi', hhi, rfl⟩ := hc
        obtain ⟨a, ha, k⟩ := wv_ex hs
        obtain ⟨b, hb, k⟩ := wv_ex k
        obtain ⟨c, hc, k⟩ := wv_ex k
        obtain ⟨z, hz, k⟩ := wv_ex k
        refine Sim.p (y := z) (by simp [kindOf, ho]) ?_ k
        simp only [pop, ho, X.of_ev hx, X.opt_ev hlo, X.opt_ev hhi, ha, hb, hc]
        unfold islcp at hz
        split at hz
        · simp only [aslice, hu, hie]
          cases h1 : abound n c n with
          | none => rw [h1] at hz; simp at hz
          | some m => rw [h1] at hz; exact hz
        · cases hz
      · cases hc
    · cases hc
  · rename_i x ix ho
    simp only [Option.bind_eq_bind, Option.bind_eq_some_iff, Option.pure_def, Option.some.injEq] at hc
    obtain ⟨x', hx, rfl⟩ := hc
    obtain ⟨a, ha, k⟩ := wv_ex hs
    split at k
    · obtain ⟨z, hz, k⟩ := wv_ex k
      refine Sim.p (y := z) (by simp [kindOf, ho]) ?_ k
      simp only [pop, ho, X.of_ev hx, ha]; exact hz
    · exact k.elim
  · rename_i t x ho
    split at hc
    · rename_i hcon
      simp only [Option.bind_eq_bind, Option.bind_eq_some_iff, Option.pure_def, Option.some.injEq] at hc
      obtain ⟨x', hx, rfl⟩ := hc
      obtain ⟨a, ha, k⟩ := wv_ex hs
      refine Sim.p (y := .ifc t a) (by simp [kindOf, ho]) ?_ k
      simp only [pop, ho, hcon, if_true, X.of_ev hx, ha, Option.map_some]
    · cases hc
  · rename_i f first cap ho
    simp only [Option.bind_eq_bind, Option.bind_eq_some_iff, Option.pure_def, Option.some.injEq] at hc
    obtain ⟨a', ha, b', hb, rfl⟩ := hc
    obtain ⟨a, h1, k⟩ := wv_ex hs
    obtain ⟨b, h2, k⟩ := wv_ex k
    refine Sim.p (y := .fn f a b) (by simp [kindOf, ho]) ?_ k
    simp only [pop, ho, X.ofs_evs ha, X.ofs_evs hb, h1, h2]
  · rename_i t x ho
    simp only [Option.bind_eq_bind, Option.bind_eq_some_iff, Option.pure_def, Option.some.injEq] at hc
    obtain ⟨row, hrow, x', hx, rfl⟩ := hc
    obtain ⟨a, ha, k⟩ := wv_ex hs
    obtain ⟨z, hz, k⟩ := wv_ex k
    refine Sim.l (y := z) (by simp [kindOf, ho]) ?_ k
    simp only [lop, ho, X.of_ev hx, ha]
    cases a <;> simp only [iload, reduceCtorEq] at hz
    · simp only [aload]
      split at hz
      · rename_i h1; rw [h1]; simp only [acut_row hrow]; exact hz
      · cases hz
    · simp only [aload, acut_row hrow]; exact hz
  · rename_i t x ho
    simp only [Option.bind_eq_bind, Option.bind_eq_some_iff, Option.pure_def, Option.some.injEq] at hc
    obtain ⟨x', hx, rfl⟩ := hc
    obtain ⟨a, ha, hk, k⟩ := wv_ex hs
    refine Sim.a (p := (.obj (.cells t a.cells), fun id => .ptr id 0)) (by simp [kindOf, ho]) ?_ k
    simp only [mkop, ho, X.of_ev hx, ha, Option.bind_some, hk, if_true]
  · rename_i t ho
    simp only [Option.bind_eq_bind, Option.bind_eq_some_iff, Option.pure_def, Option.some.injEq] at hc
    obtain ⟨cs, hcs, rfl⟩ := hc
    refine Sim.a (p := (.obj (.cells t cs), fun id => .ptr id 0)) (by simp [kindOf, ho]) ?_ hs
    simp only [mkop, ho, hcs, Option.map_some]
  · rename_i t ps ho
    split at hc
    · rename_i z fields hz hu
      split at hc
      · rename_i places hpl
        simp only [Option.bind_eq_bind, Option.bind_eq_some_iff, Option.pure_def, Option.some.injEq] at hc
        obtain ⟨qs, hq, rfl⟩ := hc
        obtain ⟨cs, hcs, k⟩ := wv_ex hs
        obtain ⟨rs, h1, h2⟩ := ifill_eq hq hcs
        refine Sim.p (y := .agg cs) (by simp [kindOf, ho]) ?_ k
        simp only [pop, ho, h1, abuild, hz, hu, hpl, h2, Option.map_some]
      · cases hc
    · cases hc
  · rename_i t n ps ho
    split at hc
    · rename_i e hu
      split at hc
      · rename_i ti z hti hz
        split at hc
        · rename_i hcond
          simp only [Option.bind_eq_bind, Option.bind_eq_some_iff, Option.pure_def, Option.some.injEq] at hc
          obtain ⟨qs, hq, rfl⟩ := hc
          obtain ⟨cs, hcs, hl, k⟩ := wv_ex hs
          obtain ⟨rs, h1, h2⟩ := ifill_eq hq hcs
          refine Sim.a (p := (.row n ti.size cs, fun t => .sl (.own t 0 ti.size) n cs)) (by simp [kindOf, ho]) ?_ k
          simp only [mkop, ho, h1, abuildSlice, hu, hti, hz, h2]
          rw [if_pos hcond, if_pos hl]
        · cases hc
      · cases hc
    · cases hc
  · rename_i t ho
    cases hc
    exact Sim.a (p := (.obj (.map []), fun id => .mp id)) (by simp [kindOf, ho]) (by simp only [mkop, ho]) hs
  · rename_i t m k' ok ho
    split at hc
    · rename_i key elem hu
      simp only [Option.bind_eq_bind, Option.bind_eq_some_iff, Option.pure_def, Option.some.injEq] at hc
      obtain ⟨kind, hkind, zero, hzero, m', hm, k2, hk2, rfl⟩ := hc
      obtain ⟨a, ha, k⟩ := wv_ex hs
      obtain ⟨b, hb, k⟩ := wv_ex k
      obtain ⟨z, hz, k⟩ := wv_ex k
      refine Sim.l (y := z) (by simp [kindOf, ho]) ?_ k
      simp only [lop, ho, X.of_ev hm, X.of_ev hk2, ha, hb]
      unfold ilookup at hz
      split at hz
      · rename_i es kv h1 h2
        simp only [alookup, hu, h1, h2, hkind, hzero]
        cases h3 : afind kind kv es 0 with
        | none => rw [h3] at hz; simp at hz
        | some q =>
          rw [h3] at hz
          cases q with
          | none => exact hz
          | some pr => obtain ⟨j, x⟩ := pr; exact hz
      · cases hz
    · cases hc
  · rename_i t m k' x ho
    split at hc
    · rename_i key elem hu
      simp only [Option.bind_eq_bind, Option.bind_eq_some_iff, Option.pure_def, Option.some.injEq] at hc
      obtain ⟨kind, hkind, m', hm, k2, hk2, x', hx, rfl⟩ := hc
      obtain ⟨a, ha, k⟩ := wv_ex hs
      obtain ⟨b, hb, k⟩ := wv_ex k
      obtain ⟨c, hcx, k⟩ := wv_ex k
      obtain ⟨h', hz, k⟩ := wv_ex k
      refine Sim.e (by simp [kindOf, ho]) ?_ k
      simp only [eop, ho, X.of_ev hm, X.of_ev hk2, X.of_ev hx, ha, hb, hcx]
      cases a with
      | mp ob =>
        simp only [imapup] at hz
        cases h1 : lit b with
        | none => rw [h1] at hz; simp at hz
        | some kv =>
        rw [h1] at hz
        simp only at hz
        split at hz
        · rename_i es h2
          simp only [amapUpdate, hu, h1, h2, hkind]
          cases h3 : afind kind kv es 0 with
          | none => rw [h3] at hz; simp at hz
          | some q =>
            rw [h3] at hz
            cases q with
            | none => cases hz; rfl
            | some pr => obtain ⟨j, x⟩ := pr; cases hz; rfl
        · cases hz
      | _ => simp [imapup] at hz
    · cases hc
  · rename_i t m k' x ho
    split at hc
    · rename_i key elem hu
      simp only [Option.bind_eq_bind, Option.bind_eq_some_iff, Option.pure_def, Option.some.injEq] at hc
      obtain ⟨kind, hkind, m', hm, k2, hk2, x', hx, rfl⟩ := hc
      obtain ⟨a, ha, k⟩ := wv_ex hs
      obtain ⟨b, hb, k⟩ := wv_ex k
      obtain ⟨c, hcx, k⟩ := wv_ex k
      obtain ⟨h', hz, k⟩ := wv_ex k
      refine Sim.e (by simp [kindOf, ho]) ?_ k
      simp only [eop, ho, X.of_ev hm, X.of_ev hk2, X.of_ev hx, ha, hb, hcx]
      cases a with
      | mp ob =>
        simp only [imapup] at hz
        cases h1 : lit b with
        | none => rw [h1] at hz; simp at hz
        | some kv =>
        rw [h1] at hz
        simp only at hz
        split at hz
        · rename_i es h2
          simp only [amapUpdate, hu, h1, h2, hkind]
          cases h3 : afind kind kv es 0 with
          | none => rw [h3] at hz; simp at hz
          | some q =>
            rw [h3] at hz
            cases q with
            | none => cases hz; rfl
            | some pr => obtain ⟨j, x⟩ := pr; cases hz; rfl
        · cases hz
      | _ => simp [imapup] at hz
    · cases hc
  · rename_i t p x ho
    split at hc
    · rename_i ti hti
      simp only [Option.bind_eq_bind, Option.bind_eq_some_iff, Option.pure_def, Option.some.injEq] at hc
      obtain ⟨p', hp, x', hx, rfl⟩ := hc
      obtain ⟨a, ha, k⟩ := wv_ex hs
      obtain ⟨b, hb, k⟩ := wv_ex k
      obtain ⟨h', hz, k⟩ := wv_ex k
      refine Sim.e (by simp [kindOf, ho]) ?_ k
      simp only [eop, ho, X.of_ev hp, X.of_ev hx, ha, hb]
      unfold istore at hz
      split at hz
      · split at hz
        · rename_i h1
          simp only [astore, h1, hti]
          rw [hz]; rfl
        · cases hz
      · cases hz
    · cases hc
  · rename_i c ho
    split at hc
    · rename_i hcal
      split at hc
      · rename_i x t hargs htys
        split at hc
        · rename_i e hu
          simp only [Option.bind_eq_bind, Option.bind_eq_some_iff, Option.pure_def, Option.some.injEq] at hc
          obtain ⟨x', hx, rfl⟩ := hc
          obtain ⟨a, ha, k⟩ := wv_ex hs
          obtain ⟨z, hz, k⟩ := wv_ex k
          refine Sim.l (y := z) (by simp [kindOf, ho, hcal]) ?_ k
          simp only [lop, ho, hcal, hargs, htys, X.of_ev hx, ha]
          cases a <;> simp only [ilenl, reduceCtorEq] at hz <;> simp only [alen, alenOf, hu] <;> exact hz
        · rename_i hu
          simp only [Option.bind_eq_bind, Option.bind_eq_some_iff, Option.pure_def, Option.some.injEq] at hc
          obtain ⟨x', hx, rfl⟩ := hc
          obtain ⟨a, ha, k⟩ := wv_ex hs
          obtain ⟨z, hz, k⟩ := wv_ex k
          refine Sim.l (y := z) (by simp [kindOf, ho, hcal]) ?_ k
          simp only [lop, ho, hcal, hargs, htys, X.of_ev hx, ha]
          unfold ilens at hz
          split at hz
          · simp only [alen, alenOf, hu]; exact hz
          · cases hz
        · cases hc
      · cases hc
    · rename_i hcal
      split at hc
      · rename_i p q t t' hargs htys
        split at hc
        · rename_i htt
          split at hc
          · rename_i e hu
            split at hc
            · rename_i ti z hti hz
              split at hc
              · rename_i hcond
                simp only [Option.bind_eq_bind, Option.bind_eq_some_iff, Option.pure_def, Option.some.injEq] at hc
                obtain ⟨a', ha', b', hb', rfl⟩ := hc
                obtain ⟨a, ha, k⟩ := wv_ex hs
                obtain ⟨b, hb, k⟩ := wv_ex k
                obtain ⟨r, hr, k⟩ := wv_ex k
                refine Sim.e (by simp [kindOf, ho, hcal]) ?_ k
                simp only [eop, ho, hcal, hargs, htys, htt, if_true, X.of_ev ha', X.of_ev hb', ha, hb]
                unfold iapp at hr
                split at hr
                · split at hr
                  · rename_i hc2
                    obtain ⟨c1, c2, c3, c4, c5⟩ := hc2
                    simp only [aappend, ← htt, hu, hti, hz]
                    rw [if_pos ⟨hcond.1, hcond.2, c1, c2, c3, c4, c5⟩]
                    exact congrArg (Option.map fun p => (AOut.ret p.1, p.2)) hr
                  · cases hr
                · cases hr
              · cases hc
            · cases hc
          · cases hc
        · cases hc
      · cases hc
    · rename_i f hcal
      split at hc
      · rename_i hb
        simp only [Option.bind_eq_bind, Option.bind_eq_some_iff, Option.pure_def, Option.some.injEq] at hc
        obtain ⟨xs', hxs, rfl⟩ := hc
        obtain ⟨xs, h1, k⟩ := wv_ex hs
        exact .inr ⟨c, .func f, f, [], [], xs, ho, hcal, rfl, by rw [X.ofs_evs hxs]; exact h1, hb, by simpa using k⟩
      · cases hc
    · rename_i f hnf hcal
      simp only [Option.bind_eq_bind, Option.bind_eq_some_iff, Option.pure_def, Option.some.injEq] at hc
      obtain ⟨f', hf, xs', hxs, rfl⟩ := hc
      obtain ⟨fv, hfv, k⟩ := wv_ex hs
      obtain ⟨xs, h1, k⟩ := wv_ex k
      cases fv with
      | fn ff first cap => cases ff with
        | func g => exact .inr ⟨c, f, g, first, cap, xs, ho, hcal, by rw [X.of_ev hf]; exact hfv, by rw [X.ofs_evs hxs]; exact h1, k.1, k.2⟩
        | _ => exact k.elim
      | _ => exact k.elim
    · rename_i hcal
      split at hc
      · rename_i a b hargs
        simp only [Option.bind_eq_bind, Option.bind_eq_some_iff, Option.pure_def, Option.some.injEq] at hc
        obtain ⟨a', ha, b', hb, rfl⟩ := hc
        obtain ⟨u, hu, k⟩ := wv_ex hs
        obtain ⟨p, hp, k⟩ := wv_ex k
        obtain ⟨v, hv, k⟩ := wv_ex k
        obtain ⟨q, hq, k⟩ := wv_ex k
        rw [aint_eq hp] at hu; rw [aint_eq hq] at hv
        refine Sim.p (y := .v (.int p.1 (if q.2 > p.2 then q.2 else p.2))) (by simp [kindOf, ho, hcal]) ?_ k
        simp only [pop, ho]
        exact alit_mx ho hcal hargs ((X.of_ev ha).trans hu) ((X.of_ev hb).trans hv) (fun _ => rfl)
      · cases hc
    · rename_i hcal
      split at hc
      · rename_i a b hargs
        simp only [Option.bind_eq_bind, Option.bind_eq_some_iff, Option.pure_def, Option.some.injEq] at hc
        obtain ⟨a', ha, b', hb, rfl⟩ := hc
        obtain ⟨u, hu, k⟩ := wv_ex hs
        obtain ⟨p, hp, k⟩ := wv_ex k
        obtain ⟨v, hv, k⟩ := wv_ex k
        obtain ⟨q, hq, k⟩ := wv_ex k
        rw [aint_eq hp] at hu; rw [aint_eq hq] at hv
        refine Sim.p (y := .v (.int p.1 (if q.2 < p.2 then q.2 else p.2))) (by simp [kindOf, ho, hcal]) ?_ k
        simp only [pop, ho]
        exact alit_mx ho hcal hargs ((X.of_ev ha).trans hu) ((X.of_ev hb).trans hv) (fun _ => rfl)
      · cases hc
    · cases hc
  · rename_i x ho
    simp only [Option.bind_eq_bind, Option.bind_eq_some_iff, Option.pure_def, Option.some.injEq] at hc
    obtain ⟨x', hx, rfl⟩ := hc
    obtain ⟨a, ha, k⟩ := wv_ex hs
    exact Sim.p (y := a) (by simp [kindOf, ho]) (by simp only [pop, ho, X.of_ev hx, ha, k.1, if_true]) k.2
  · rename_i t l c ho
    split at hc
    · rename_i e hu
      split at hc
      · rename_i ie z hie hz
        split at hc
        · rename_i hcond
          simp only [Option.bind_eq_bind, Option.bind_eq_some_iff, Option.pure_def, Option.some.injEq] at hc
          obtain ⟨l', hl, c', hcx, rfl⟩ := hc
          obtain ⟨u, hu1, k⟩ := wv_ex hs
          obtain ⟨p, hp, k⟩ := wv_ex k
          obtain ⟨v, hv1, k⟩ := wv_ex k
          obtain ⟨q, hq, k⟩ := wv_ex k
          obtain ⟨r, hr, k⟩ := wv_ex k
          unfold imks at hr
          split at hr
          · rename_i hb
            have hb' : 0 ≤ p.2 ∧ p.2 ≤ q.2 ∧ (ie.bytes : Int) * q.2 ≤ 281474976710656 ∧ q.2 ≤ 9223372036854775807 ∧ z.length = ie.size ∧ 0 < ie.size := ⟨hb.1, hb.2.1, hb.2.2.1, hb.2.2.2, hcond.1, hcond.2⟩
            split at hr
            · rename_i hlc
              cases hr
              exact Sim.a (p := (.obj (.cells e (acycle z (p.2.toNat * ie.size))), fun id => .arr id 0 p.2.toNat)) (by simp [kindOf, ho])
                (by simp only [mkop, ho, X.of_ev hl, X.of_ev hcx, hu1, hv1, amake, hp, hq, hu, hie, hz]; rw [if_pos hb', if_pos hlc]) k
            · rename_i hlc
              split at hr
              · rename_i hl0
                cases hr
                exact Sim.a (p := (.row 0 ie.size [], fun t => .sl (.own t 0 ie.size) 0 [])) (by simp [kindOf, ho])
                  (by simp only [mkop, ho, X.of_ev hl, X.of_ev hcx, hu1, hv1, amake, hp, hq, hu, hie, hz]; rw [if_pos hb', if_neg hlc, if_pos hl0]) k
              · cases hr
          · cases hr
        · cases hc
      · cases hc
    · cases hc
  · rename_i x ho
    simp only [Option.bind_eq_bind, Option.bind_eq_some_iff, Option.pure_def, Option.some.injEq] at hc
    obtain ⟨x', hx, rfl⟩ := hc
    obtain ⟨a, ha, k⟩ := wv_ex hs
    split at k
    · rename_i t y
      exact Sim.e (out := .pan (.ifc t y)) (h' := h) (by simp [kindOf, ho]) (by simp only [eop, ho, X.of_ev hx, ha]) k
    · exact k.elim
  · cases hc
theorem cop'_sound {K : AOut → AH → Prop} (hs : istep P G fr h (cop' P o) K) : Sim P G fr h o K := by
  unfold cop' at hs
  cases hc : cop P o with
  | some i => rw [hc] at hs; exact cop_sound hc hs
  | none =>
    rw [hc] at hs
    obtain ⟨p, hp, k⟩ := wv_ex hs
    exact .inl ⟨p.1, p.2, hp, k⟩
end
end

/-! ### Pg: a region whose order is open, with its operations listed in another order. -/
section
def renOp (σ : List Nat) (o : Oper) : Oper := { o with after := o.after.map fun e => { e with on := σ.getD e.on 0 }, guard := o.guard.map fun g => (σ.getD g.1 0, g.2) }
def permOps (ops : Array Oper) (π σ : List Nat) : Array Oper := (π.map fun i => renOp σ ((ops[i]?).getD default)).toArray
def permOk (n : Nat) (π σ : List Nat) : Bool := decide (π.length = n) && decide (σ.length = n) && (List.range n).all fun i => decide (π.getD i 0 < n) && decide (σ.getD i 0 < n) && decide (π.getD (σ.getD i 0) 0 = i) && decide (σ.getD (π.getD i 0) 0 = i)
def edgesOk (ops : Array Oper) : Bool := ops.toList.all fun o => o.after.toList.all (fun e => decide (e.on < ops.size)) && (match o.guard with | none => true | some g => decide (g.1 < ops.size))
/-- What makes room first, what has effects last. -/
def permGo (ops : Array Oper) : Nat → Nat → List Nat → List Nat
  | 0, _, _ => []
  | n + 1, m, l =>
    let rdy := fun i => ((ancs ops ops.size).getD i 0) &&& m == ((ancs ops ops.size).getD i 0)
    match (match l.find? fun i => rdy i && kindAt ops i != .e with | some i => some i | none => l.find? rdy) with
    | some i => i :: permGo ops n (m ||| 2 ^ i) (l.filter (· != i))
    | none => []
def permOf (ops : Array Oper) : List Nat := permGo ops ops.size 0 (List.range ops.size)
def invOf (n : Nat) (π : List Nat) : List Nat := (List.range n).map fun i => π.findIdx (· == i)
/-- The operations in another order, if they may be read so. -/
def reorder (ops : Array Oper) : Option (Array Oper) :=
  let π := permOf ops
  let σ := invOf ops.size π
  if permOk ops.size π σ && edgesOk ops then some (permOps ops π σ) else none
theorem Oper.wp_ren {P : Program} {σ : List Nat} {o : Oper} {a : Act} {w : World} {K : Act → World → Prop} {Q : Exit → Act → World → Prop} : (renOp σ o).wp P a w K Q ↔ o.wp P a w K Q := Iff.rfl
theorem Oper.asks_ren {P : Program} {σ : List Nat} {o : Oper} {a : Act} {w : World} : (renOp σ o).asks P a w ↔ o.asks P a w := Iff.rfl
section
variable {P : Program} {ops : Array Oper} {π σ : List Nat} {Q : Exit → Act → World → Prop}
theorem permOk_at (h : permOk ops.size π σ = true) {i : Nat} (hi : i < ops.size) : π.getD i 0 < ops.size ∧ σ.getD i 0 < ops.size ∧ π.getD (σ.getD i 0) 0 = i ∧ σ.getD (π.getD i 0) 0 = i := by
  unfold permOk at h
  simp only [Bool.and_eq_true, decide_eq_true_eq, List.all_eq_true, List.mem_range] at h
  have := h.2 i hi
  exact ⟨this.1.1.1, this.1.1.2, this.1.2, this.2⟩
theorem permOps_size (h : permOk ops.size π σ = true) : (permOps ops π σ).size = ops.size := by
  unfold permOk at h
  simp only [Bool.and_eq_true, decide_eq_true_eq] at h
  simp [permOps, h.1.1]
theorem permOps_at (h : permOk ops.size π σ = true) {p : Nat} (hp : p < ops.size) : (permOps ops π σ)[p]? = some (renOp σ ops[π.getD p 0]!) := by
  have hl : π.length = ops.size := by unfold permOk at h; simp only [Bool.and_eq_true, decide_eq_true_eq] at h; exact h.1.1
  have h1 := permOk_at h hp
  unfold permOps
  rw [List.getElem?_toArray, List.getElem?_map, List.getElem?_eq_getElem (by omega)]
  have e : π.getD p 0 = π[p] := by rw [List.getD_eq_getElem?_getD, List.getElem?_eq_getElem (by omega)]; rfl
  rw [e] at h1 ⊢
  simp only [Option.map_some, Option.some.injEq]
  rw [Array.getElem?_eq_getElem h1.1, getElem!_pos ops _ h1.1]; rfl
theorem permOps_to (h : permOk ops.size π σ = true) {i : Nat} {o : Oper} (ho : ops[i]? = some o) : (permOps ops π σ)[σ.getD i 0]? = some (renOp σ o) := by
  obtain ⟨hi, rfl⟩ := Array.getElem?_eq_some_iff.1 ho
  have h1 := permOk_at h hi
  rw [permOps_at h h1.2.1, h1.2.2.1, getElem!_pos ops i hi]
theorem edges_at (he : edgesOk ops = true) {i : Nat} {o : Oper} (ho : ops[i]? = some o) : (∀ e ∈ o.after.toList, e.on < ops.size) ∧ ∀ g, o.guard = some g → g.1 < ops.size := by
  unfold edgesOk at he
  rw [List.all_eq_true] at he
  have := he o (by rw [Array.mem_toList_iff]; exact Array.mem_of_getElem? ho)
  simp only [Bool.and_eq_true, List.all_eq_true, decide_eq_true_eq] at this
  refine ⟨this.1, fun g hg => ?_⟩
  have h2 := this.2
  rw [hg] at h2
  simpa using h2
theorem wanted_perm (h : permOk ops.size π σ = true) (he : edgesOk ops = true) {i : Nat} {o : Oper} (ho : ops[i]? = some o) (tm : Array Value) : Region.wanted (renOp σ o) (yielded (permOps ops π σ) tm) = Region.wanted o (yielded ops tm) := by
  unfold Region.wanted renOp
  cases hg : o.guard with
  | none => rfl
  | some g =>
    obtain ⟨g, want⟩ := g
    have hlt := (edges_at he ho).2 _ hg
    simp only [Option.map_some]
    have : yielded (permOps ops π σ) tm (σ.getD g 0) = yielded ops tm g := by
      unfold yielded
      have hgo : ops[g]? = some ops[g] := Array.getElem?_eq_getElem hlt
      rw [permOps_to h hgo, hgo]; rfl
    rw [this]
theorem wpOp_perm (h : permOk ops.size π σ = true) (he : edgesOk ops = true) {i : Nat} (hi : i < ops.size) {K : Act → World → Prop} {a : Act} {w : World} (k : wpOp P (permOps ops π σ) Q (σ.getD i 0) K a w) : wpOp P ops Q i K a w := by
  have ho : ops[i]? = some ops[i] := Array.getElem?_eq_getElem hi
  unfold wpOp at k ⊢
  rw [permOps_to h ho] at k
  rw [ho]
  simp only [wanted_perm h he ho] at k ⊢
  exact k
theorem ready_perm (h : permOk ops.size π σ = true) (he : edgesOk ops = true) {l l' : Array Bool} (hl : l.size = ops.size) (hl' : l'.size = ops.size) (hll : ∀ i, i < ops.size → l'[σ.getD i 0]? = l[i]?) {i : Nat} (hi : i < ops.size) : σ.getD i 0 ∈ Region.ready .any (permOps ops π σ) l' ↔ i ∈ Region.ready .any ops l := by
  have ho : ops[i]? = some ops[i] := Array.getElem?_eq_getElem hi
  have h1 := permOk_at h hi
  unfold Region.ready
  rw [List.mem_filter, List.mem_filter, List.mem_range, List.mem_range, permOps_size h, permOps_to h ho, ho, Array.getD_eq_getD_getElem?, Array.getD_eq_getD_getElem?, hll i hi]
  simp only [h1.2.1, hi, true_and, Option.map_some, Option.getD_some, Bool.and_eq_true]
  refine and_congr Iff.rfl ?_
  rw [Array.all_eq_true_iff_forall_mem, Array.all_eq_true_iff_forall_mem]
  have key : ∀ e, e.on < ops.size → (!Region.binds .any { e with on := σ.getD e.on 0 } || l'.getD (σ.getD e.on 0) false) = (!Region.binds .any e || l.getD e.on false) := fun e hlt => by
    rw [Array.getD_eq_getD_getElem?, Array.getD_eq_getD_getElem?, hll e.on hlt]; rfl
  constructor
  · intro q e hem
    have := q { e with on := σ.getD e.on 0 } (Array.mem_map.2 ⟨e, hem, rfl⟩)
    rw [← key e ((edges_at he ho).1 e (by simpa using hem))]; exact this
  · intro q e' hm'
    obtain ⟨e, hem, rfl⟩ := Array.mem_map.1 hm'
    rw [key e ((edges_at he ho).1 e (by simpa using hem))]; exact q e hem
theorem ready_lt {l : Array Bool} {i : Nat} (h : i ∈ Region.ready .any ops l) : i < ops.size := by
  unfold Region.ready at h
  exact List.mem_range.1 (List.mem_filter.1 h).1
theorem ready_nil (h : permOk ops.size π σ = true) (he : edgesOk ops = true) {l l' : Array Bool} (hl : l.size = ops.size) (hl' : l'.size = ops.size) (hll : ∀ i, i < ops.size → l'[σ.getD i 0]? = l[i]?) (hr : Region.ready .any ops l = []) : Region.ready .any (permOps ops π σ) l' = [] := by
  cases hq : Region.ready .any (permOps ops π σ) l' with
  | nil => rfl
  | cons p r =>
    exfalso
    have hm : p ∈ Region.ready .any (permOps ops π σ) l' := by rw [hq]; simp
    have hp := ready_lt hm
    rw [permOps_size h] at hp
    have h1 := permOk_at h hp
    have h2 := permOk_at h h1.1
    rw [← h1.2.2.2] at hm
    have := (ready_perm h he hl hl' hll h1.1).1 hm
    rw [hr] at this
    cases this
theorem wpAny_perm (h : permOk ops.size π σ = true) (he : edgesOk ops = true) : ∀ (fuel : Nat) {l l' : Array Bool} {a : Act} {w : World}, l.size = ops.size → l'.size = ops.size → (∀ i, i < ops.size → l'[σ.getD i 0]? = l[i]?) → wpAny P .any (permOps ops π σ) Q fuel l' a w → wpAny P .any ops Q fuel l a w
  | 0, l, l', a, w, hl, hl', hll, k => by
    refine ⟨?_, k.2⟩
    cases hq : Region.ready .any ops l with
    | nil => rfl
    | cons i r =>
      exfalso
      have hm : i ∈ Region.ready .any ops l := by rw [hq]; simp
      have := (ready_perm h he hl hl' hll (ready_lt hm)).2 hm
      rw [k.1] at this
      cases this
  | fuel + 1, l, l', a, w, hl, hl', hll, k => by
    refine ⟨fun hr => k.1 (ready_nil h he hl hl' hll hr), fun i hi => ?_⟩
    have hlt := ready_lt hi
    refine wpOp_perm h he hlt (wpOp_mono (fun a w q => ?_) (k.2 _ ((ready_perm h he hl hl' hll hlt).2 hi)))
    refine wpAny_perm h he fuel (by simp [hl]) (by simp [hl']) (fun x hx => ?_) q
    have h1 := permOk_at h hlt
    have h2 := permOk_at h hx
    by_cases e : i = x
    · subst e
      rw [Array.getElem?_setIfInBounds_self_of_lt (by omega), Array.getElem?_setIfInBounds_self_of_lt (by omega)]
    · rw [Array.getElem?_setIfInBounds_ne e, Array.getElem?_setIfInBounds_ne (fun q => e (by rw [← h1.2.2.1, q, h2.2.2.1]))]
      exact hll x hx
end
theorem wpAny_reorder {P : Program} {ops ops' : Array Oper} {Q : Exit → Act → World → Prop} (h : reorder ops = some ops') {a : Act} {w : World} (k : wpAny P .any ops' Q ops'.size (Array.replicate ops'.size false) a w) : wpAny P .any ops Q ops.size (Array.replicate ops.size false) a w := by
  unfold reorder at h
  simp only at h
  split at h
  · rename_i q
    simp only [Bool.and_eq_true] at q
    cases h
    rw [permOps_size q.1] at k
    refine wpAny_perm q.1 q.2 _ (by simp) (by simp) (fun i hi => ?_) k
    have := permOk_at q.1 hi
    rw [Array.getElem?_replicate, Array.getElem?_replicate, if_pos this.2.1, if_pos hi]
  · cases h
end
end Go.Proofs.YtkcbhebbjpiibaaDoor.Pg
