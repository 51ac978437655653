/-
  strings.Builder beside the objects: what its methods do to its two blocks, and that they leave all others alone.
-/
import Derived.Test.YtcjlpklgnknpgaaGreatDoorVa
import Derived.Test.YtcjlpklgnknpgaaGreatDoorPgN
set_option linter.unusedVariables false
set_option linter.unusedSimpArgs false
set_option maxRecDepth 100000
set_option maxHeartbeats 4000000
namespace Go.Proofs.YtcjlpklgnknpgaaGreatDoor.Pg
open Go
section
open Go Go.Proofs Go.Shelf Go.RowKit Go.Lib
abbrev U8T : TypeId := 5
theorem u8_info' : (Tryz.prog.info? 5).map (fun i => (i.zero, i.size, i.bytes)) = some (some (.int .u8 0), 1, 1) := by kernel_rfl
def Out (μ : Mu) (x : Nat) : Prop := (∀ o, μ.obj o ≠ some x) ∧ (∀ t i, μ.tok t = some i → i.b ≠ x) ∧ ∀ off, ¬ μ.com x off
section
variable {B0 : Nat} {G : Nat → Option (List AV)} {μ μ' : Mu} {h h' : AH} {w w' : World}
theorem Out.step {x : Nat} (o : Out μ x) (st : Step B0 G μ h w μ' h' w') (hx : x < w.heap.size) : Out μ' x ∧ w'.heap[x]? = w.heap[x]? := by
 refine ⟨⟨fun i e => ?_, fun t i e q => ?_, fun off e => ?_⟩, st.keep x hx o.1 o.2.1⟩
 ·rcases st.newo i x e with q | q
  ·exact o.1 i q
  ·omega
 ·rcases st.newt t i e with ⟨j, q1, q2⟩ | ⟨_, q2⟩
  ·exact o.2.1 t j q1 (q2.trans q)
  ·omega
 ·rcases st.newc x off e with q | q | ⟨t, i, q1, q2⟩
  ·exact o.2.2 off q
  ·omega
  ·exact o.2.1 t i q1 q2
theorem Out.new (r : R B0 G μ h w) {x : Nat} (hx : w.heap.size ≤ x) : Out μ x :=
 ⟨fun o e => by have := r.obj_lt e; omega, fun t i e q => by have := r.tok_lt e; omega, fun off e => by have := (r.com x off e).2.2; omega⟩
structure Frm (lo : Nat) (μ : Mu) (w w' : World) : Prop where
 size : w.heap.size ≤ w'.heap.size
 env : Env w w'
 keep : ∀ x, x < w.heap.size → (x < lo ∨ ¬ Out μ x) → w'.heap[x]? = w.heap[x]?
theorem Frm.r {lo : Nat} (f : Frm lo μ w w') (r : R B0 G μ h w) : R B0 G μ h w' ∧ ComKeep μ w w' := by
 have hk : ComKeep μ w w' := fun b off hc => cell_of_heap (f.keep b (r.com b off hc).2.2 (.inr fun o => o.2.2 off hc)) off
 exact ⟨r.other f.size hk (fun o b e => f.keep b (r.obj_lt e) (.inr fun q => q.1 o e)) (fun t i e => f.keep _ (r.tok_lt e) (.inr fun q => q.2.1 t i e rfl)), hk⟩
theorem Frm.step {μ0 : Mu} {h0 : AH} {w0 : World} (f : Frm w0.heap.size μ w w') (st : Step B0 G μ0 h0 w0 μ h w) : Step B0 G μ0 h0 w0 μ h w' ∧ ComKeep μ w w' := by
 obtain ⟨r', hk⟩ := f.r st.r
 exact ⟨⟨st.le, r', Nat.le_trans st.size f.size, fun b hb h1 h2 => (f.keep b (Nat.lt_of_lt_of_le hb st.size) (.inl hb)).trans (st.keep b hb h1 h2), fun b off hc => (hk b off (st.le.com b off hc)).trans (st.com b off hc), st.next, st.tnext, st.newo, st.newt, st.newc, st.env.trans f.env⟩, hk⟩
structure BG (lo b : Nat) (s : ByteArray) (μ : Mu) (w : World) : Prop where
 low : lo ≤ b
 out : Out μ b
 st : ∃ p v, (p = .pointer none ∨ p = .pointer (some ⟨b, 0, none⟩)) ∧ w.heap[b]? = some (.cells #[p, v] BT (0, 0)) ∧ w.ownsRowF lo U8T 1 v s.size (strCells s) ∧ (∀ g, v.ownBlock = some g → g ≠ b ∧ Out μ g) ∧ (s.size = 0 → v = .slice none 0 0)
theorem BG.lt {lo b : Nat} {s : ByteArray} (g : BG lo b s μ w) : b < w.heap.size := by
 obtain ⟨p, v, _, hb, _⟩ := g.st
 exact (Array.getElem?_eq_some_iff.1 hb).1
theorem ownsRowF_blk {base e n : Nat} {v : Value} {xs : List Value} (h : w.ownsRowF base e 1 v n xs) (k : ∀ g, v.ownBlock = some g → w'.heap[g]? = w.heap[g]?) : w'.ownsRowF base e 1 v n xs := by
 obtain ⟨h1, h2⟩ := h
 refine ⟨h1, h2.imp id ?_⟩
 rintro ⟨g, cap, cur, fz, rfl, q1, q2, q3⟩
 exact ⟨g, cap, cur, fz, rfl, q1, (k g rfl).trans q2, q3⟩
theorem ownsRowF_lt {base e n : Nat} {v : Value} {xs : List Value} (h : w.ownsRowF base e 1 v n xs) {g : Nat} (hg : v.ownBlock = some g) : g < w.heap.size ∧ base ≤ g := by
 rcases h.2 with ⟨rfl, _⟩ | ⟨g', cap, cur, fz, rfl, q1, q2, q3⟩
 ·cases hg
 ·cases hg; exact ⟨(Array.getElem?_eq_some_iff.1 q2).1, q1⟩
theorem BG.step {lo b : Nat} {s : ByteArray} (g : BG lo b s μ w) (st : Step B0 G μ h w μ' h' w') : BG lo b s μ' w' := by
 obtain ⟨p, v, hp, hb, hown, hout, h0⟩ := g.st
 obtain ⟨o', k⟩ := g.out.step st g.lt
 refine ⟨g.low, o', p, v, hp, k.trans hb, ownsRowF_blk hown fun x hx => ((hout x hx).2.step st (ownsRowF_lt hown hx).1).2, fun x hx => ⟨(hout x hx).1, ((hout x hx).2.step st (ownsRowF_lt hown hx).1).1⟩, h0⟩
end
section
variable {P : Program} {w : World}
theorem app_raw (base : Nat) (t u e : TypeId) (i : TypeInfo) (ht : P.underlying t = some (.slice e)) (hu : P.underlying u = some .string) (hi : P.info? e = some i) (hz : i.zero = some (.int .u8 0))
  (hsize : i.size = 1) (hby : i.bytes = 1) (v : Value) (n : Nat) (xs : List Value) (hown : w.ownsRowF base e 1 v n xs) (s : ByteArray)
  (h63 : n + s.size ≤ maxLen) (hbytes : n + s.size ≤ 140737488355328) (hbase : base ≤ w.heap.size) :
  ∃ v' w', (∀ ty, (Builtin.append_ #[t, u] ty #[v, .string s]).run P w = .ok v' w') ∧ w'.ownsRowF base e 1 v' (n + s.size) (xs ++ strCells s) ∧ w.grownBy w' v.ownBlock ∧ (v'.ownBlock = v.ownBlock ∨ ∃ g, v'.ownBlock = some g ∧ w.heap.size ≤ g) := by
 rcases hown.2 with ⟨rfl, rfl⟩ | ⟨g, cap, cur, fz, rfl, hbg, hg, hfz, hnc, hcm, hcs, htake⟩
 ·have key := fun ty => run_append_own_string (P := P) w w.heap.size t u ty e i ht hu hi hz hsize hby (.slice none 0 0) 0 xs ⟨hown.1, .inl ⟨rfl, rfl⟩⟩ s h63 hbytes (Nat.le_refl _)
  obtain ⟨v', w', h1, h2, h3, h4⟩ := key t
  have heq : ∀ ty, (Builtin.append_ #[t, u] ty #[.slice none 0 0, .string s]).run P w = (Builtin.append_ #[t, u] t #[.slice none 0 0, .string s]).run P w := fun ty => rfl
  refine ⟨v', w', fun ty => (heq ty).trans h1, ?_, h3, ?_⟩
  ·have := World.ownsRowF_of h2
   refine ⟨this.1, this.2.imp id ?_⟩
   rintro ⟨g, cap, cur, fz, e1, q1, q2⟩
   exact ⟨g, cap, cur, fz, e1, Nat.le_trans hbase q1, q2⟩
  ·rcases h2.2 with ⟨rfl, _⟩ | ⟨g, cap, cur, rfl, q1, _⟩
   ·exact .inl rfl
   ·exact .inr ⟨g, rfl, q1⟩
 ·have hsmall : n + s.size ≤ 9223372036854775807 := by simp only [maxLen] at h63; omega
  have hxl : xs.length = n := by simpa using hown.1
  have hlen : (xs ++ strCells s).length = (n + s.size) * 1 := by rw [List.length_append, hxl, strCells_length, Nat.mul_one]
  by_cases hroom : n + s.size ≤ cap
  ·have hcs' : cur.size = cap := by simpa using hcs
   have hr := fun ty => run_append_room_stringF (P := P) w t u ty e i ht hu hi hsize g n cap cur fz hg (by simpa using hfz) s hroom (by omega)
   refine ⟨_, _, hr, ⟨hlen, .inr ⟨g, cap, _, fz, rfl, hbg, Go.setRow_heap w g cur _ e _ hg, by omega, hroom, hcm, ?_, ?_⟩⟩, ⟨rfl, rfl, rfl, by simp, fun k _ hk => Go.setRow_other w g k _ (fun e => hk (by simp [Value.ownBlock, e]))⟩, .inl rfl⟩
   ·simp only [List.size_toArray, List.length_append, List.length_take, List.length_drop, Array.length_toList, strCells_length]
    omega
   ·have ht' : cur.toList.take n = xs := by simpa using htake
    rw [ht', ← hlen]
    exact List.take_left
  ·have holds : ∀ j u, xs[j]? = some u → w.cell? ((⟨g, 0, none⟩ : Addr).add j) = some u := hown.cells (g := g) rfl
   have hr := fun ty => run_append_grow_string (P := P) w t u ty e i (.int .u8 0) ht hu hi hz ⟨g, 0, none⟩ n cap xs (by rw [hsize]; simpa using hxl) holds s (by omega) (by omega) (by rw [hby]; exact growslice_fits (by omega) (by omega))
   have hge := grownCap_ge w (n + s.size) cap e
   have hcm2 : grownCap w (n + s.size) cap e ≤ maxLen := grownCap_le_maxLen w (n + s.size) cap e h63
   refine ⟨_, _, hr, ⟨hlen, .inr ⟨w.heap.size, _, _, (0, 0), rfl, hbase, heap_alloc_new w.drew _, Nat.zero_le _, hge, hcm2, ?_, ?_⟩⟩, ⟨rfl, rfl, rfl, by simp, fun k hk _ => heap_alloc_old w.drew _ hk⟩, .inr ⟨w.heap.size, rfl, Nat.le_refl _⟩⟩
   ·have hz1 : (Value.int IntKind.u8 0).cells.size = 1 := rfl
    simp only [Array.size_append, List.size_toArray, size_zeroCells, hz1, hxl, strCells_length]
    omega
   ·have hz1 : (Value.int IntKind.u8 0).cells.size = 1 := rfl
    simp only [Array.toList_append, List.append_assoc]
    rw [← List.append_assoc, ← hlen]
    exact List.take_left
theorem wpList_run_app {ops : Array Oper} {rest : List Oper} {o : Oper} {a : Act} {Q : Exit → Act → World → Prop} (hgd : o.guard = none) (sl x : Operand) (t u : TypeId)
  (ho : o.op = .call { callee := .builtin .append, args := #[sl, x], argTypes := #[t, u] }) {v s : Value} (hs : a.eval sl = v) (hx : a.eval x = s) {v' : Value} {w' : World} (hr : ∀ ty, (Builtin.append_ #[t, u] ty #[v, s]).run P w = .ok v' w')
  (k : wpList P ops Q rest (a.put o.dst v') w') : wpList P ops Q (o :: rest) a w := by
 refine wpList_plain hgd fun K hK => ?_
 unfold Oper.wp execOp
 simp only [ho, resolve, invoke, builtin, Sem.run_bind, Sem.run_pure, Result.andThen_ok, List.map_toArray, List.map_cons, List.map_nil, hs, hx, hr]
 exact hK _ _ k
end
theorem strCells_ap (s t : ByteArray) : strCells (s ++ t) = strCells s ++ strCells t := by
 unfold strCells
 rw [ByteArray.data_append, Array.toList_append, List.map_append]
theorem setCell_at {w : World} {b k : Nat} {vs : Array Value} {e : TypeId} {fz : Nat × Nat} (h : w.heap[b]? = some (.cells vs e fz)) (u : Value) : (w.setCell ⟨b, k, none⟩ u).heap[b]? = some (.cells (vs.setIfInBounds k u) e fz) := by
 simp [World.setCell, Array.getElem?_modify, h]
theorem setCell_oth {w : World} {b k x : Nat} (hx : x ≠ b) (u : Value) : (w.setCell ⟨b, k, none⟩ u).heap[x]? = w.heap[x]? := by
 simp only [World.setCell, Array.getElem?_modify]
 rw [if_neg (fun q => hx q.symm)]
theorem write_raw {G : Nat → Option (List AV)} {B0 : Nat} {μ : Mu} {h : AH} {w : World} (r : R B0 G μ h w) {lo b : Nat} {s : ByteArray} (g : BG lo b s μ w) (hlo : lo ≤ w.heap.size) (t : ByteArray) (ht : t.size ≠ 0) (hl : s.size + t.size ≤ 140737488355328) :
  Calls Tryz.prog 36 #[.pointer (some ⟨b, 0, none⟩), .string t] w fun e w' => e = .returned (.tuple #[.int .i64 t.size, .nilIface]) ∧ BG lo b (s ++ t) μ w' ∧ Frm lo μ w w' := by
 obtain ⟨p, v, hp, hbk, hown, hout, h0⟩ := g.st
 have hne : v.ownBlock ≠ some b := fun q => (hout b q).1 rfl
 have hcopy : Calls Tryz.prog 75 #[.pointer (some ⟨b, 0, none⟩)] w fun e w' => e = .returned (.tuple #[]) ∧ w'.heap[b]? = some (.cells #[.pointer (some ⟨b, 0, none⟩), v] BT (0, 0)) ∧ w'.heap.size = w.heap.size ∧ (∀ x, x ≠ b → w'.heap[x]? = w.heap[x]?) ∧ Env w w' := by
  rcases hp with rfl | rfl
  ·refine (copy_first b w _ hbk).mono ?_
   rintro e w' ⟨rfl, rfl⟩
   obtain ⟨q1, q2, q3⟩ := setRow_heap (vs' := #[.pointer (some ⟨b, 0, none⟩), v]) hbk
   exact ⟨rfl, q2, q1, q3, ⟨rfl, rfl, rfl⟩⟩
  ·refine (copy_used b w (by simp [World.cell?, hbk])).mono ?_
   rintro e w' ⟨rfl, rfl⟩
   exact ⟨rfl, hbk, rfl, fun _ _ => rfl, Env.refl _⟩
 obtain ⟨i, hi, hi2⟩ := Option.map_eq_some_iff.1 u8_info'
 simp only [Prod.mk.injEq] at hi2
 obtain ⟨hi3, hi4, hi5⟩ := hi2
 have hvs : ∃ A n c, v = .slice A n c := by
  rcases hown.2 with ⟨rfl, _⟩ | ⟨g', cap, cur, fz, rfl, _⟩ <;> exact ⟨_, _, _, rfl⟩
 obtain ⟨A0, n0, c0', rfl⟩ := hvs
 go_enter Tryz.func36, Tryz.ntmps36
 go_wp2_with (go_at_call 75; refine hcopy.mono ?_)
 rintro e w1 ⟨rfl, hb1, hs1, hoth1, env1⟩
 have c0 : w1.cell? ⟨b, 0, none⟩ = some (.pointer (some ⟨b, 0, none⟩)) := by simp [World.cell?, hb1]
 have c1 : w1.cell? ⟨b, 1, none⟩ = some (.slice A0 n0 c0') := by simp [World.cell?, hb1]
 have hown1 : w1.ownsRowF lo U8T 1 (.slice A0 n0 c0') s.size (strCells s) := ownsRowF_blk hown fun x hx => hoth1 x fun q => hne (by rw [← q]; exact hx)
 obtain ⟨v', w2, hrun, hown2, hgrow, hblk⟩ := app_raw (P := Tryz.prog) lo 33 9 U8T i (by kernel_rfl) (by kernel_rfl) hi hi3 hi4 hi5 _ _ _ hown1 t (by unfold maxLen; omega) hl (by omega)
 have hb2 : w2.heap[b]? = some (.cells #[.pointer (some ⟨b, 0, none⟩), .slice A0 n0 c0'] BT (0, 0)) := by
  rw [hgrow.block b (Array.getElem?_eq_some_iff.1 hb1).1 (fun q => hne q.symm)]; exact hb1
 have d0 : w2.cell? ⟨b, 0, none⟩ = some (.pointer (some ⟨b, 0, none⟩)) := by simp [World.cell?, hb2]
 have d1 : w2.cell? ⟨b, 1, none⟩ = some (.slice A0 n0 c0') := by simp [World.cell?, hb2]
 have f1 : w2.frozen? ⟨b, 1, none⟩ = false := by simp [World.frozen?, hb2]
 have hvs' : ∃ A n c, v' = .slice A n c := by
  rcases hown2.2 with ⟨rfl, _⟩ | ⟨g', cap, cur, fz, rfl, _⟩ <;> exact ⟨_, _, _, rfl⟩
 obtain ⟨A2, n2, c2, rfl⟩ := hvs'
 go_wp2_with (at_builtin; refine wpList_run_app rfl _ _ 33 9 rfl rfl rfl hrun ?_)
 go_ret2
 have hblt := g.lt
 have hnew : ∀ x, (Value.slice A2 n2 c2).ownBlock = some x → x ≠ b ∧ Out μ x ∧ (w.heap.size ≤ x ∨ (Value.slice A0 n0 c0').ownBlock = some x) := by
  intro x hx
  rcases hblk with q | ⟨g', q1, q2⟩
  ·have hx' := q.symm.trans hx
   exact ⟨(hout x hx').1, (hout x hx').2, .inr hx'⟩
  ·rw [hx] at q1; cases q1
   exact ⟨by omega, Out.new r (by omega), .inl (by omega)⟩
 refine ⟨rfl, ⟨g.low, g.out, .pointer (some ⟨b, 0, none⟩), .slice A2 n2 c2, .inr rfl, ?_, ?_, fun x hx => ⟨(hnew x hx).1, (hnew x hx).2.1⟩, fun q => ?_⟩, ?_⟩
 ·rw [setCell_at hb2]; rfl
 ·rw [strCells_ap, ByteArray.size_append]
  exact ownsRowF_blk hown2 fun x hx => setCell_oth (hnew x hx).1 _
 ·rw [ByteArray.size_append] at q; omega
 ·refine ⟨?_, env1.trans ⟨hgrow.os, hgrow.tape, hgrow.output⟩, fun x hx q => ?_⟩
  ·have := hgrow.size
   simp [World.setCell]; omega
  ·have hxb : x ≠ b := fun e => by
    subst e
    rcases q with q | q
    ·have := g.low; omega
    ·exact q g.out
   rw [setCell_oth hxb, hgrow.block x (by omega) (fun e => ?_), hoth1 x hxb]
   rcases q with q | q
   ·have := (ownsRowF_lt hown e.symm).2; omega
   ·exact q (hout x e.symm).2
theorem ptr_u8 : Tryz.prog.underlying 143 = some (.pointer U8T) := by kernel_rfl
theorem cells_u8 : Tryz.prog.cellsOf U8T = 1 := by kernel_rfl
theorem string_raw {G : Nat → Option (List AV)} {B0 : Nat} {μ : Mu} {h : AH} {w : World} (r : R B0 G μ h w) {lo b : Nat} {s : ByteArray} (g : BG lo b s μ w) :
  Calls Tryz.prog 38 #[.pointer (some ⟨b, 0, none⟩)] w fun e w' => e = .returned (.string s) ∧ Frm lo μ w w' := by
 have mixed : Tryz.prog.follows .mixedOrders = true := by kernel_rfl
 obtain ⟨p, v, hp, hbk, hown, hout, h0⟩ := g.st
 by_cases hs : s.size = 0
 ·have hv := h0 hs
  subst hv
  have hse : s = .empty := by
   apply ByteArray.ext
   exact Array.eq_empty_of_size_eq_zero hs
  have hUS := fun (W : World) (q : Option Addr) => Lib.run_unsafeString_none (P := Tryz.prog) W 143 3 9 q
  have c1 : w.drew.cell? ⟨b, 1, none⟩ = some (.slice none 0 0) := by
   have : w.drew.heap[b]? = some (.cells #[p, .slice none 0 0] BT (0, 0)) := hbk
   rw [Lib.cell_of_heap this]; rfl
  have hSD : (Builtin.unsafeSliceData_ #[33] 143 #[.slice none 0 0]).run Tryz.prog w.drew = .ok (.pointer none) w.drew := rfl
  go_enter Tryz.func38, Tryz.ntmps38
  go_wp2
  go_region_o
  all_goals (go_wp2; go_ret; rw [hse]; exact ⟨rfl, ⟨Nat.le_refl _, ⟨rfl, rfl, rfl⟩, fun _ _ _ => rfl⟩⟩)
 ·obtain ⟨g', cap, cur, fz, rfl, hbg, hg, hfz, hnc, hcm, hcs, htake⟩ : ∃ g cap cur fz, v = .slice (some ⟨g, 0, none⟩) s.size cap ∧ lo ≤ g ∧ w.heap[g]? = some (.cells cur U8T fz) ∧ fz.2 ≤ s.size * 1 ∧ s.size ≤ cap ∧ cap ≤ maxLen ∧ cur.size = cap * 1 ∧ cur.toList.take (s.size * 1) = strCells s := by
   rcases hown.2 with ⟨_, hz⟩ | ⟨g, cap, cur, fz, hv, r⟩
   ·exact absurd hz hs
   ·exact ⟨g, cap, cur, fz, hv, r⟩
  have hl : s.data.toList.length = s.size := by rw [Array.length_toList]; rfl
  have hl0 : s.data.toList ≠ [] := fun q => hs (by rw [← hl, q]; rfl)
  have c1 : w.drew.cell? ⟨b, 1, none⟩ = some (.slice (some ⟨g', 0, none⟩) s.size cap) := by
   have : w.drew.heap[b]? = some (.cells #[p, .slice (some ⟨g', 0, none⟩) s.size cap] BT (0, 0)) := hbk
   rw [Lib.cell_of_heap this]; rfl
  have hSD : (Builtin.unsafeSliceData_ #[33] 143 #[.slice (some ⟨g', 0, none⟩) s.size cap]).run Tryz.prog w.drew = .ok (.pointer (some ⟨g', 0, none⟩)) w.drew :=
   Lib.run_unsafeSliceData_row _ _ _ _ _ _ (by omega)
  have hUS : (Builtin.unsafeString_ #[143, 3] 9 #[.pointer (some ⟨g', 0, none⟩), .int .i64 s.size]).run Tryz.prog w.drew = .ok (.string s) (w.drew.freeze ⟨g', 0, none⟩ s.size) := by
   have := Lib.run_unsafeString_row (P := Tryz.prog) w.drew 143 3 9 U8T ptr_u8 cells_u8 g' cur.size (by have hg' : w.drew.heap[g']? = some (.cells cur U8T fz) := hg; simp [World.shape?, hg']) s.data.toList hl0 (by omega) (by unfold maxLen at hcm; omega) (by
    intro j x hx
    exact hown.cells (g := g') rfl j (.int .u8 x.toNat) (by simp [strCells, hx]))
   rw [hl] at this
   exact this
  have hfr : Frm lo μ w (w.drew.freeze ⟨g', 0, none⟩ s.size) := by
   refine ⟨?_, ⟨?_, ?_, ?_⟩, fun x hx q => ?_⟩
   ·unfold World.freeze; split <;> simp
   ·unfold World.freeze; split <;> rfl
   ·unfold World.freeze; split <;> rfl
   ·unfold World.freeze; split <;> rfl
   ·have hxg : x ≠ g' := fun e => by
     subst e
     rcases q with q | q
     ·omega
     ·exact q (hout _ rfl).2
    unfold World.freeze
    split
    ·rfl
    ·simp only [Array.getElem?_modify]; rw [if_neg (fun e => hxg e.symm)]; rfl
  go_enter Tryz.func38, Tryz.ntmps38
  go_wp2
  go_region_o
  all_goals (go_wp2; go_ret; exact ⟨rfl, hfr⟩)
end
section
open Go Go.Proofs Go.Shelf Go.RowKit Go.Lib
set_option linter.defProp false
inductive GS where
 | pre
 | on (b : Nat) (s : ByteArray)
 | off
abbrev RP (b : Nat) : AV := .v (.pointer (some ⟨b, 0, none⟩))
def BGo (lo : Nat) (g : GS) (μ : Mu) (w : World) : Prop :=
 match g with
 | .on b s => BG lo b s μ w
 | _ => True
theorem BGo.step {B0 : Nat} {G : Nat → Option (List AV)} {μ μ' : Mu} {h h' : AH} {w w' : World} {lo : Nat} {g : GS} (k : BGo lo g μ w) (st : Step B0 G μ h w μ' h' w') : BGo lo g μ' w' := by
 cases g with
 | on b s => exact BG.step k st
 | _ => trivial
def gwrite : GS → List AV → (ByteArray → GS → Prop) → Prop
 | .on b s, [.v (.pointer (some ⟨b', 0, none⟩)), .v (.string t)], K => (b' = b ∧ t.size ≠ 0 ∧ s.size + t.size ≤ 140737488355328) ∧ K t (.on b (s ++ t))
 | _, _, _ => False
def gstr : GS → List AV → (ByteArray → Prop) → Prop
 | .on b s, [.v (.pointer (some ⟨b', 0, none⟩))], K => b' = b ∧ K s
 | _, _, _ => False
def gnew : GS → Prop
 | .pre => True
 | _ => False
section
variable (G : Nat → Option (List AV))
def isB : IOp → Nat
 | ⟨_, none, _, .alloc t [.v (.pointer none), .sl .nil 0 []]⟩ => if t = BT then 1 else 0
 | ⟨_, none, _, .call f _⟩ => if f = 36 then 2 else if f = 38 then 3 else 0
 | _ => 0
def callXs : I → List X
 | .call _ xs => xs
 | _ => []
def gops : List IOp → L → JH → GS → (Option AV → L → JH → GS → Prop) → Prop
 | [], l, j, g, Q => Q none l j g
 | o :: r, l, j, g, Q => match isB o with
  | 0 => jg l o.g (fun l => jstep Tryz.prog G l j o.i (joutK (fun x j' => jput l o.d x fun l' => gops r l' j' g Q) fun x j' => Q (some x) l j' g)) (fun l => jput l o.d (.v undef) fun l' => gops r l' j g Q)
  | 1 => gnew g ∧ ∀ b, jput l o.d (RP b) fun l' => gops r l' j (.on b .empty) Q
  | 2 => jxs G l (callXs o.i) fun xs => gwrite g xs fun t g' => jput l o.d (.tup [I64 t.size, .v .nilIface]) fun l' => gops r l' j g' Q
  | _ => jxs G l (callXs o.i) fun xs => gstr g xs fun s => jput l o.d (STR s) fun l' => gops r l' j .off Q
def gregQ (Q : AX → L → JH → GS → Prop) : Option AV → L → JH → GS → Prop
 | none, l, j, g => Q .norm l j g
 | some x, l, j, g => Q (.pan x) l j g
def gthen (K : L → JH → GS → Prop) (Q : AX → L → JH → GS → Prop) : AX → L → JH → GS → Prop
 | .norm, l, j, g => K l j g
 | x, l, j, g => Q x l j g
def gblock (id : Nat) (Q : AX → L → JH → GS → Prop) : AX → L → JH → GS → Prop
 | .exit i, l, j, g => if i = id then Q .norm l j g else Q (.exit i) l j g
 | x, l, j, g => Q x l j g
def gloop (J : Nat → L → JH → GS → Prop) (Q : AX → L → JH → GS → Prop) (n : Nat) : AX → L → JH → GS → Prop
 | .norm, l, j, g => ∃ m l2, m < n ∧ JDropL j l l2 ∧ J m l2 j g
 | x, l, j, g => Q x l j g
def gwp : IR → L → JH → GS → (AX → L → JH → GS → Prop) → Prop
 | .skip, l, j, g, Q => Q .norm l j g
 | .exit id, l, j, g, Q => Q (.exit id) l j g
 | .ret, l, j, g, Q => Q .ret l j g
 | .reg ops, l, j, g, Q => gops G ops l j g (gregQ Q)
 | .seq a b, l, j, g, Q => gwp a l j g (gthen (fun l j g => gwp b l j g Q) Q)
 | .cond x a b, l, j, g, Q => jx G l x fun c => jbool c fun t => wb t (gwp a l j g Q) (gwp b l j g Q)
 | .block id a, l, j, g, Q => gwp a l j g (gblock id Q)
 | .loop a, l, j, g, Q => ∃ J : Nat → L → JH → GS → Prop, (∃ n l0, JDropL j l l0 ∧ J n l0 j g) ∧ ∀ n l1 j1 g1, J n l1 j1 g1 → gwp a l1 j1 g1 (gloop J Q n)
 | _, _, _, _, _ => False
end
section
variable {B0 : Nat} {G : Nat → Option (List AV)} {μ0 : Mu} {h0 : AH} {w0 : World} {N : Nat}
def FinG (B0 : Nat) (G : Nat → Option (List AV)) (μ0 : Mu) (h0 : AH) (w0 : World) (N : Nat) (Q : AX → L → JH → GS → Prop) : Exit → Act → World → Prop := fun e a' w' =>
 ∃ x l fr' h' g μ', Q x l h'.j g ∧ FR N fr' l ∧ Step B0 G μ0 h0 w0 μ' h' w' ∧ FrRel [] μ' w' fr' a' ∧ ExRel μ' w' x e ∧ BGo w0.heap.size g μ' w'
def GW (B0 : Nat) (G : Nat → Option (List AV)) (μ0 : Mu) (h0 : AH) (w0 : World) (N : Nat) (c : Code) (l : L) (j : JH) (g : GS) (Q : AX → L → JH → GS → Prop) : Prop :=
 ∀ μ w a fr (h : AH), h.j = j → FR N fr l → Step B0 G μ0 h0 w0 μ h w → FrRel [] μ w fr a → BGo w0.heap.size g μ w → c.wpIn (Fw none) 0 Tryz.prog (FinG B0 G μ0 h0 w0 N Q) a w
theorem isB1 {o : IOp} (h : isB o = 1) : ∃ d tx, o = ⟨d, none, tx, .alloc BT [.v (.pointer none), .sl .nil 0 []]⟩ := by
 unfold isB at h
 split at h
 ·split at h
  ·rename_i q; subst q; exact ⟨_, _, rfl⟩
  ·cases h
 ·split at h
  ·cases h
  ·split at h <;> cases h
 ·cases h
theorem isB2 {o : IOp} (h : isB o = 2) : ∃ d tx xs, o = ⟨d, none, tx, .call 36 xs⟩ := by
 unfold isB at h
 split at h
 ·split at h <;> cases h
 ·split at h
  ·rename_i q; subst q; exact ⟨_, _, _, rfl⟩
  ·split at h <;> cases h
 ·cases h
theorem isB3 {o : IOp} (h0 : isB o ≠ 0) (h1 : isB o ≠ 1) (h2 : isB o ≠ 2) : ∃ d tx xs, o = ⟨d, none, tx, .call 38 xs⟩ := by
 unfold isB at h0 h1 h2
 split at h0
 ·split at h0
  ·rename_i q; simp [q] at h1
  ·exact absurd rfl h0
 ·split at h0
  ·rename_i q; simp [q] at h2
  ·split at h0
   ·rename_i q; subst q; exact ⟨_, _, _, rfl⟩
   ·exact absurd rfl h0
 ·exact absurd rfl h0
theorem cop_call {P : Program} {o : Oper} {f : FuncId} {xs : List X} (hc : cop P o = some (.call f xs)) : ∃ c, o.op = .call c ∧ c.callee = .value (.func f) ∧ hasBody P f = true ∧ X.ofs c.args.toList = some xs := by
 have key : ∃ c, o.op = .call c := by
  unfold cop at hc
  split at hc
  all_goals first
   | exact ⟨_, ‹_›⟩
   | (exfalso
      repeat' split at hc
      all_goals (simp [Option.bind_eq_some_iff] at hc; done))
 obtain ⟨c, ho⟩ := key
 refine ⟨c, ho, ?_⟩
 unfold cop at hc
 simp only [ho] at hc
 split at hc
 ·repeat' split at hc
  all_goals (simp [Option.bind_eq_some_iff] at hc; done)
 ·repeat' split at hc
  all_goals (simp [Option.bind_eq_some_iff] at hc; done)
 ·rename_i q
  split at hc
  ·rename_i hb
   simp only [Option.bind_eq_bind, Option.bind_eq_some_iff, Option.pure_def, Option.some.injEq] at hc
   obtain ⟨ys, h1, h2⟩ := hc
   cases h2
   exact ⟨q, hb, h1⟩
  ·cases hc
 ·repeat' split at hc
  all_goals (simp [Option.bind_eq_some_iff] at hc; done)
 ·repeat' split at hc
  all_goals (simp [Option.bind_eq_some_iff] at hc; done)
 ·repeat' split at hc
  all_goals (simp [Option.bind_eq_some_iff] at hc; done)
 ·repeat' split at hc
  all_goals (simp [Option.bind_eq_some_iff] at hc; done)
 ·cases hc
theorem call_raw {μ : Mu} {h : AH} {w : World} {fr : Fr} {a : Act} {o : Oper} {f : FuncId} {xs : List X} {ys : List AV} {us : List Value} (r : R B0 G μ h w) (fl : FrRel [] μ w fr a) (hc : cop Tryz.prog o = some (.call f xs)) (hy : X.evs G fr xs = some ys)
  (hu : ∀ us', Vs μ w ys us' → us' = us) {post : Ending → World → Prop} (hcall : Calls Tryz.prog f us.toArray w post) {K : Act → World → Prop} {Q : Exit → Act → World → Prop}
  (hret : ∀ e w', post e w' → ∃ u, e = .returned u ∧ K (a.put o.dst u) w') : o.wp Tryz.prog a w K Q := by
 obtain ⟨c, ho, hcal, hb, hxs⟩ := cop_call hc
 have f' := fl.ops r.glob o
 have hev : aevs G fr c.args.toList = some ys := by rw [X.ofs_evs hxs]; exact hy
 have hv := aevs_V (fun z hz => f' z (by rw [ho]; simp only [Op.operands, Call.operands, Array.mem_append]; exact .inr (by simpa using hz))) hev
 have harr : us.toArray = c.args.map a.eval := by
  rw [← hu _ hv]; apply Array.ext'; simp
 rw [harr] at hcall
 unfold hasBody at hb
 cases hfn : Tryz.prog.funcs[f]? with
 | none => rw [hfn] at hb; simp at hb
 | some fn =>
  rw [hfn] at hb
  simp only [Bool.and_eq_true, Bool.not_eq_true'] at hb
  obtain ⟨hb1, hb2⟩ := hb
  have hnb : fn.body.isNone = false := by cases hq : fn.body <;> simp [hq] at hb2 ⊢
  unfold Oper.wp
  have hpr : (program).run Tryz.prog w = .ok Tryz.prog w := rfl
  have hge : a.eval (.func f) = Value.func (.func f) #[] #[] := rfl
  have hem : (#[] : Array Value) ++ c.args.map a.eval ++ #[] = c.args.map a.eval := by simp
  simp only [execOp, ho, resolve, hcal, hge, Deferred.ofValue, Sem.run_bind, Sem.run_pure, Result.andThen_ok, invoke, callFunc, hpr, hfn, hb1, hnb, Bool.false_eq_true, if_false, Oper.upon_enter, hem]
  refine hcall.mono ?_
  intro e' w' q
  obtain ⟨u, rfl, k⟩ := hret e' w' q
  exact k
theorem RP_V {μ : Mu} {w : World} {b : Nat} {s : ByteArray} : ∀ us', Vs μ w [RP b, STR s] us' → us' = [.pointer (some ⟨b, 0, none⟩), .string s] := by
 intro us' h
 simp only [Vs, V] at h
 obtain ⟨u1, l1, rfl, ⟨_, rfl⟩, u2, l2, rfl, ⟨_, rfl⟩, rfl⟩ := h
 rfl
theorem RP_V1 {μ : Mu} {w : World} {b : Nat} : ∀ us', Vs μ w [RP b] us' → us' = [.pointer (some ⟨b, 0, none⟩)] := by
 intro us' h
 simp only [Vs, V] at h
 obtain ⟨u1, l1, rfl, ⟨_, rfl⟩, rfl⟩ := h
 rfl
theorem new_raw {μ μ1 : Mu} {h : AH} {w w1 : World} {t : TypeId} {cs : List AV} (st0 : Step B0 G μ0 h0 w0 μ h w) (st : Step B0 G μ h w μ1 (h.push (.cells t cs)) w1) {u : Value} (hv : V μ1 w1 (.ptr h.next 0) u) :
  ∃ b μ2 vs, u = .pointer (some ⟨b, 0, none⟩) ∧ w.heap.size ≤ b ∧ w1.heap[b]? = some (.cells vs t (0, 0)) ∧ Vs μ1 w1 cs vs.toList ∧ Step B0 G μ h w μ2 h w1 ∧ Out μ2 b := by
 simp only [V] at hv
 obtain ⟨b, hb, rfl⟩ := hv
 have hd : DropH h (h.push (.cells t cs)) h := ⟨Nat.le_refl _, st.next, Nat.le_refl _, st.tnext, fun o ob hlt hg => by
  rw [AH.get_push, if_neg (by omega)] at hg
  exact .inl ⟨hlt, hg, hg⟩, fun _ _ => rfl⟩
 obtain ⟨μ2, hr, st2⟩ := hd.step st0.r st
 obtain ⟨_, ob, h1, h2⟩ := st.r.obj _ b hb
 rw [AH.get_push, if_pos rfl] at h1
 cases h1
 obtain ⟨vs, hvs, hV⟩ := h2
 have hge : w.heap.size ≤ b := by
  rcases st.newo _ b hb with q | q
  ·rw [st0.r.next _ (Nat.le_refl _)] at q; cases q
  ·exact q.2
 refine ⟨b, μ2, vs, rfl, hge, hvs, hV, st2, fun o e => ?_, fun t i e q => ?_, fun off e => ?_⟩
 ·have e1 : μ1.obj o = some b := by
   rw [hr.obj] at e; split at e
   ·exact e
   ·cases e
  have := st.r.inj o h.next b e1 hb
  subst this
  rw [st2.r.next _ (Nat.le_refl _)] at e; cases e
 ·have e1 : μ1.tok t = some i := by
   rw [hr.tok] at e; split at e
   ·exact e
   ·cases e
  exact st.r.sep t i h.next e1 (by rw [hb, q])
 ·exact (st.r.com b off ((hr.com b off).1 e)).1 _ hb
theorem copc_of {o : Oper} {i : I} (h : cop' Tryz.prog o = i) (hn : ∀ o', i ≠ .gen o') : cop Tryz.prog o = some i := by
 unfold cop' at h
 cases hc : cop Tryz.prog o with
 | none => rw [hc] at h; exact absurd h.symm (hn o)
 | some j => rw [hc] at h; exact congrArg some h
theorem gwrite_ex {g : GS} {xs : List AV} {K : ByteArray → GS → Prop} (h : gwrite g xs K) : ∃ b s t, g = .on b s ∧ xs = [RP b, STR t] ∧ t.size ≠ 0 ∧ s.size + t.size ≤ 140737488355328 ∧ K t (.on b (s ++ t)) := by
 unfold gwrite at h
 split at h
 ·obtain ⟨⟨rfl, h1, h2⟩, h3⟩ := h; exact ⟨_, _, _, rfl, rfl, h1, h2, h3⟩
 ·exact h.elim
theorem gstr_ex {g : GS} {xs : List AV} {K : ByteArray → Prop} (h : gstr g xs K) : ∃ b s, g = .on b s ∧ xs = [RP b] ∧ K s := by
 unfold gstr at h
 split at h
 ·obtain ⟨rfl, h3⟩ := h; exact ⟨_, _, rfl, rfl, h3⟩
 ·exact h.elim
theorem gops_sound {ops : Array Oper} {Q : Exit → Act → World → Prop} {Q' : Option AV → L → JH → GS → Prop}
  (hq : ∀ a' w' fr' l' (h' : AH) g' μ', Q' none l' h'.j g' → FR N fr' l' → Step B0 G μ0 h0 w0 μ' h' w' → FrRel [] μ' w' fr' a' → BGo w0.heap.size g' μ' w' → Q .normal a' w')
  (hpn : ∀ a' w' fr' l' (h' : AH) g' μ' y u, Q' (some y) l' h'.j g' → FR N fr' l' → Step B0 G μ0 h0 w0 μ' h' w' → FrRel [] μ' w' fr' a' → BGo w0.heap.size g' μ' w' → V μ' w' y u → Q (.panic [{ v := u, recovered := false }]) a' w') :
  ∀ (s : Nat) (os : List Oper) (l : List IOp), ciops Tryz.prog ops os = some l → ops.toList.drop s = os → ∀ {ll : L} {fr : Fr} {h : AH} {g : GS} {μ : Mu} {w : World} {a : Act},
  (∀ o ∈ os, nodef o = true) → okOps N l = true → FR N fr ll → gops G l ll h.j g Q' → Step B0 G μ0 h0 w0 μ h w → FrRel [] μ w fr a → BGo w0.heap.size g μ w →
  wpOpsIn (Fw none) 0 Tryz.prog ops Q (List.range' s os.length) a w
 | s, [], l, hl, hd, ll, fr, h, g, μ, w, a, hnd, hok, fl, hw, st, f, bg => by
  simp only [ciops, Option.some.injEq] at hl; subst hl
  exact hq _ _ _ _ _ _ _ hw fl st f bg
 | s, o :: os, l, hl, hd, ll, fr, h, g, μ, w, a, hnd, hok, fl, hw, st, f, bg => by
  simp only [ciops] at hl
  have hget : ops[s]? = some o := by
   have := congrArg (·[0]?) hd
   simpa using this
  have hd' : ops.toList.drop (s + 1) = os := by
   have := congrArg List.tail hd
   simpa using this
  cases h1 : ciop Tryz.prog ops o with
  | none => rw [h1] at hl; simp at hl
  | some i =>
   cases h2 : ciops Tryz.prog ops os with
   | none => rw [h1, h2] at hl; simp at hl
   | some l' =>
    rw [h1, h2] at hl; simp only [Option.some.injEq] at hl; subst hl
    obtain ⟨hdo, hgo, hro⟩ := okOps_cons hok
    have h1' := h1
    unfold ciop at h1
    cases hcg : cguard ops o with
    | none => rw [hcg] at h1; simp at h1
    | some gd =>
     rw [hcg] at h1; simp only [Option.map_some, Option.some.injEq] at h1; subst h1
     simp only [List.length_cons, List.range', wpOpsIn, hget]
     have hno : ∀ o ∈ os, nodef o = true := fun o ho => hnd o (List.mem_cons_of_mem _ ho)
     have gnone : gd = none → o.guard = none := fun e => by
      subst e
      unfold cguard at hcg
      split at hcg
      ·assumption
      ·split at hcg <;> simp at hcg
     have goon : ∀ {fr' : Fr} {ll' : L} {h' : AH} {g' : GS} {μ' : Mu} {a' : Act} {w' : World}, FR N fr' ll' → gops G l' ll' h'.j g' Q' → Step B0 G μ0 h0 w0 μ' h' w' → FrRel [] μ' w' fr' a' → BGo w0.heap.size g' μ' w' → wpOpsIn (Fw none) 0 Tryz.prog ops Q (List.range' (s + 1) os.length) a' w' :=
      fun q1 q2 q3 q4 q5 => gops_sound hq hpn (s + 1) os l' h2 hd' hno hro q1 q2 q3 q4 q5
     have putd : ∀ {x : AV} {K : L → Prop}, jput ll o.dst x K → ∃ fr' l', fr.put o.dst x = some fr' ∧ FR N fr' l' ∧ K l' := fun {x K} k => by
      cases hdst : o.dst with
      | none => rw [hdst] at k; exact ⟨fr, ll, rfl, fl, k⟩
      | some d =>
       rw [hdst] at k hdo
       refine ⟨fr.set d x, _, ?_, fl.set d x, k⟩
       simp only [Fr.put]
       rw [if_pos (by rw [fl.1]; simpa using hdo)]
     simp only [gops] at hw
     split at hw
     ·-- a plain operation
      have k0 : gq fr gd (istep Tryz.prog G fr h (cop' Tryz.prog o) (outK (fun x h' => wput fr o.dst x fun fr' => ∃ ll', FR N fr' ll' ∧ gops G l' ll' h'.j g Q') fun x h' => ∃ ll', FR N fr ll' ∧ Q' (some x) ll' h'.j g)) (wput fr o.dst (.v undef) fun fr' => ∃ ll', FR N fr' ll' ∧ gops G l' ll' h.j g Q') := by
       refine jg_sound hgo fl hw ?_ ?_
       ·intro l1 f1 k
        refine istep_mono (jstep_sound f1 k) ?_
        intro out h' k
        cases out with
        | ret x => dsimp only [joutK] at k; exact (jput_sound hdo f1 k (fun fr2 l2 f2 k => ⟨l2, f2, k⟩) : wput fr o.dst x fun fr' => ∃ ll', FR N fr' ll' ∧ gops G l' ll' h'.j g Q')
        | pan x => exact ⟨_, f1, k⟩
       ·intro l1 f1 k
        exact (jput_sound hdo f1 k (fun fr2 l2 f2 k => ⟨l2, f2, k⟩) : wput fr o.dst (.v undef) fun fr' => ∃ ll', FR N fr' ll' ∧ gops G l' ll' h.j g Q')
      obtain ⟨b, hb, hw⟩ := gq_sound hcg k0
      rw [wanted_V f hb]
      cases b with
      | true =>
       rw [if_pos rfl]
       refine sim_wp (cop'_sound (by simpa using hw)) st.r f (hnd o List.mem_cons_self) ?_ ?_
       ·intro x h' μ' w' u k s1 hv
        simp only [outK_ret] at k
        have hp : ∃ fr', fr.put o.dst x = some fr' ∧ ∃ ll', FR N fr' ll' ∧ gops G l' ll' h'.j g Q' := by
         unfold wput at k
         split at k
         ·rename_i hdst; exact ⟨fr, by simp only [hdst, Fr.put], k⟩
         ·rename_i d hdst; exact ⟨fr.set d x, by simp only [hdst, Fr.put]; rw [if_pos k.1], k.2⟩
        obtain ⟨fr', hp, ll', f', k⟩ := hp
        exact goon f' k (st.trans s1) ((f.mono s1.le s1.com).put hp hv) (bg.step s1)
       ·intro x h' μ' w' u k s1 hv
        simp only [outK_pan] at k
        obtain ⟨ll', f', k⟩ := k
        exact hpn _ _ _ _ _ _ _ x u k f' (st.trans s1) (f.mono s1.le s1.com) (bg.step s1) hv
      | false =>
       rw [if_neg (by simp)]
       simp only [Bool.false_eq_true, if_false] at hw
       have hp : ∃ fr', fr.put o.dst (.v undef) = some fr' ∧ ∃ ll', FR N fr' ll' ∧ gops G l' ll' h.j g Q' := by
        unfold wput at hw
        split at hw
        ·rename_i hdst; exact ⟨fr, by simp only [hdst, Fr.put], hw⟩
        ·rename_i d hdst; exact ⟨fr.set d (.v undef), by simp only [hdst, Fr.put]; rw [if_pos hw.1], hw.2⟩
       obtain ⟨fr', hp, ll', f', k⟩ := hp
       exact ⟨fun f _ => Fw_fn none f, goon f' k st (f.put hp undef_V) bg⟩
     ·-- a new builder
      rename_i hB
      obtain ⟨d, tx, e⟩ := isB1 hB
      simp only [IOp.mk.injEq] at e
      obtain ⟨e1, e2, e3, e4⟩ := e
      have hgd := gnone e2
      have hwt : Region.wanted o (yielded ops a.tmps) = true := by simp [Region.wanted, hgd]
      rw [hwt, if_pos rfl]
      obtain ⟨hg0, hw⟩ := hw
      refine sim_wp (K' := fun q k => q = .ret (.ptr h.next 0) ∧ k = h.push (.cells BT [.v (.pointer none), .sl .nil 0 []])) (cop'_sound (by rw [e4]; exact ⟨rfl, rfl⟩)) st.r f (hnd o List.mem_cons_self) ?_ (fun x h' μ' w' u k => by cases k.1)
      intro x h' μ' w' u k s1 hv
      obtain ⟨k1, rfl⟩ := k
      cases k1
      obtain ⟨b, μ2, vs, rfl, hge, hvs, hV, s2, hout⟩ := new_raw st s1 hv
      obtain ⟨fr', l2, hp, f', k⟩ := putd (hw b)
      refine goon f' k (st.trans s2) ((f.mono s2.le s2.com).put hp (by simp [V, plain])) ⟨Nat.le_trans st.size hge, hout, .pointer none, .slice none 0 0, .inl rfl, ?_, ⟨rfl, .inl ⟨rfl, rfl⟩⟩, fun g' e => (by cases e), fun _ => rfl⟩
      simp only [Vs, V] at hV
      obtain ⟨u1, l1, q1, ⟨_, rfl⟩, u2, l3, rfl, ⟨rfl, _, _⟩, rfl⟩ := hV
      rw [hvs]
      congr 2
      apply Array.ext'; exact q1
     ·-- a string is written
      rename_i hB
      obtain ⟨d, tx, xs, e⟩ := isB2 hB
      simp only [IOp.mk.injEq] at e
      obtain ⟨e1, e2, e3, e4⟩ := e
      have hgd := gnone e2
      have hwt : Region.wanted o (yielded ops a.tmps) = true := by simp [Region.wanted, hgd]
      rw [hwt, if_pos rfl]
      rw [e4] at hw
      obtain ⟨ys, hys, hw⟩ := wv_ex (jxs_ev fl hw)
      obtain ⟨b, s', t, rfl, rfl, ht, hl, hw⟩ := gwrite_ex hw
      obtain ⟨fr', l2, hp, f', k⟩ := putd hw
      refine oper_in (hnd o List.mem_cons_self) (call_raw (post := fun e w' => e = .returned (.tuple #[.int .i64 t.size, .nilIface]) ∧ BG w0.heap.size b (s' ++ t) μ w' ∧ Frm w0.heap.size μ w w') st.r f (copc_of e4 fun _ q => by cases q) hys RP_V (write_raw st.r bg st.size t ht hl) ?_)
      rintro e w' ⟨rfl, bg', fm⟩
      obtain ⟨st', hk⟩ := fm.step st
      exact ⟨_, rfl, goon f' k st' ((f.mono (Le.refl _) hk).put hp ⟨_, rfl, _, _, rfl, ⟨rfl, rfl⟩, _, _, rfl, ⟨rfl, rfl⟩, rfl⟩) bg'⟩
     ·-- the string is taken
      rename_i hB0 hB1 hB2
      obtain ⟨d, tx, xs, e⟩ := isB3 hB0 hB1 hB2
      simp only [IOp.mk.injEq] at e
      obtain ⟨e1, e2, e3, e4⟩ := e
      have hgd := gnone e2
      have hwt : Region.wanted o (yielded ops a.tmps) = true := by simp [Region.wanted, hgd]
      rw [hwt, if_pos rfl]
      rw [e4] at hw
      obtain ⟨ys, hys, hw⟩ := wv_ex (jxs_ev fl hw)
      obtain ⟨b, s', rfl, rfl, hw2⟩ := gstr_ex hw
      obtain ⟨fr', l2, hp, f', k⟩ := putd hw2
      refine oper_in (hnd o List.mem_cons_self) (call_raw (post := fun e w' => e = .returned (.string s') ∧ Frm w0.heap.size μ w w') st.r f (copc_of e4 fun _ q => by cases q) hys RP_V1 (string_raw st.r bg) ?_)
      rintro e w' ⟨rfl, fm⟩
      obtain ⟨st', hk⟩ := fm.step st
      exact ⟨_, rfl, goon f' k st' ((f.mono (Le.refl _) hk).put hp ⟨rfl, rfl⟩) trivial⟩
theorem gwp_sound : ∀ (c : Code) {l : L} {j : JH} {g : GS} {Q : AX → L → JH → GS → Prop}, okIR N (ccode Tryz.prog false c) = true → gwp G (ccode Tryz.prog false c) l j g Q → GW B0 G μ0 h0 w0 N c l j g Q
 | .skip, l, j, g, Q, ho, k => fun μ w a fr h e fl st f bg => by subst e; exact wpIn_skip ⟨.norm, l, fr, h, g, μ, k, fl, st, f, rfl, bg⟩
 | .label _, l, j, g, Q, ho, k => fun μ w a fr h e fl st f bg => by subst e; exact wpIn_label ⟨.norm, l, fr, h, g, μ, k, fl, st, f, rfl, bg⟩
 | .exit id, l, j, g, Q, ho, k => fun μ w a fr h e fl st f bg => by subst e; exact wpIn_exit ⟨.exit id, l, fr, h, g, μ, k, fl, st, f, rfl, bg⟩
 | .ret, l, j, g, Q, ho, k => fun μ w a fr h e fl st f bg => by subst e; exact wpIn_ret ⟨.ret, l, fr, h, g, μ, k, fl, st, f, rfl, bg⟩
 | .seq c d, l, j, g, Q, ho, k => fun μ w a fr h e fl st f bg => by
  simp only [ccode, okIR, Bool.and_eq_true] at ho
  refine wpIn_seq (wpIn_mono (gwp_sound c ho.1 (show gwp G (ccode Tryz.prog false c) l j g _ from k) μ w a fr h e fl st f bg) ?_)
  rintro ex a1 w1 ⟨x, l1, fr1, h1, g1, μ1, q, fl1, st1, f1, hex, bg1⟩
  cases x with
  | norm =>
   simp only [ExRel] at hex; subst hex
   exact gwp_sound d ho.2 q μ1 w1 a1 fr1 h1 rfl fl1 st1 f1 bg1
  | exit id => simp only [ExRel] at hex; subst hex; exact ⟨_, _, _, _, _, _, q, fl1, st1, f1, rfl, bg1⟩
  | ret => simp only [ExRel] at hex; subst hex; exact ⟨_, _, _, _, _, _, q, fl1, st1, f1, rfl, bg1⟩
  | pan z => obtain ⟨u, rfl, hv⟩ := hex; exact ⟨_, _, _, _, _, _, q, fl1, st1, f1, ⟨u, rfl, hv⟩, bg1⟩
 | .cond o c d, l, j, g, Q, ho, k => fun μ w a fr h e fl st f bg => by
  simp only [ccode] at k ho
  cases hx : X.of o with
  | none => rw [hx] at k; exact k.elim
  | some x =>
   rw [hx] at k ho
   simp only [okIR, Bool.and_eq_true] at ho
   simp only [gwp] at k
   obtain ⟨v, hv, k⟩ := wv_ex (jx_ev fl k)
   obtain ⟨t, ht, k⟩ := wv_ex (jbool_sound k)
   rw [ibool_eq ht] at hv
   have hv' := aev_V st.r.glob f ((X.of_ev hx).trans hv)
   simp only [V] at hv'
   refine wpIn_cond hv'.2 ?_
   cases t with
   | true => exact gwp_sound c ho.1 (k.1 rfl) μ w a fr h e fl st f bg
   | false => exact gwp_sound d ho.2 (k.2 rfl) μ w a fr h e fl st f bg
 | .block id c, l, j, g, Q, ho, k => fun μ w a fr h e fl st f bg => by
  refine wpIn_block (wpIn_mono (gwp_sound c ho (show gwp G (ccode Tryz.prog false c) l j g _ from k) μ w a fr h e fl st f bg) ?_)
  rintro ex a1 w1 ⟨x, l1, fr1, h1, g1, μ1, q, fl1, st1, f1, hex, bg1⟩
  cases x with
  | norm => simp only [ExRel] at hex; subst hex; exact ⟨_, _, _, _, _, _, q, fl1, st1, f1, rfl, bg1⟩
  | exit i =>
   simp only [ExRel] at hex; subst hex
   simp only [Exit.inBlock]
   simp only [gblock] at q
   by_cases hj : i = id
   ·rw [if_pos hj] at q ⊢; exact ⟨_, _, _, _, _, _, q, fl1, st1, f1, rfl, bg1⟩
   ·rw [if_neg hj] at q ⊢; exact ⟨_, _, _, _, _, _, q, fl1, st1, f1, rfl, bg1⟩
  | ret => simp only [ExRel] at hex; subst hex; exact ⟨_, _, _, _, _, _, q, fl1, st1, f1, rfl, bg1⟩
  | pan z => obtain ⟨u, rfl, hv⟩ := hex; exact ⟨_, _, _, _, _, _, q, fl1, st1, f1, ⟨u, rfl, hv⟩, bg1⟩
 | .scope c, l, j, g, Q, ho, k => fun μ w a fr h e fl st f bg => by
  refine wpIn_scope (wpIn_mono (gwp_sound c ho (show gwp G (ccode Tryz.prog false c) l j g _ from k) μ w a fr h e fl st f bg) ?_)
  rintro ex a1 w1 ⟨x, l1, fr1, h1, g1, μ1, q, fl1, st1, f1, hex, bg1⟩
  cases x with
  | norm => simp only [ExRel] at hex; subst hex; exact ⟨_, _, _, _, _, _, q, fl1, st1, f1, rfl, bg1⟩
  | exit i => simp only [ExRel] at hex; subst hex; exact ⟨_, _, _, _, _, _, q, fl1, st1, f1, rfl, bg1⟩
  | ret => simp only [ExRel] at hex; subst hex; exact ⟨_, _, _, _, _, _, q, fl1, st1, f1, rfl, bg1⟩
  | pan z => obtain ⟨u, rfl, hv⟩ := hex; exact ⟨_, _, _, _, _, _, q, fl1, st1, f1, ⟨u, rfl, hv⟩, bg1⟩
 | .loop c, l, j, g, Q, ho, k => fun μ w a fr h e fl st f bg => by
  obtain ⟨J, ⟨n0, l0, d0, hi0⟩, hs⟩ := (show ∃ J : Nat → L → JH → GS → Prop, (∃ n l0, JDropL j l l0 ∧ J n l0 j g) ∧ ∀ n l1 j1 g1, J n l1 j1 g1 → gwp G (ccode Tryz.prog false c) l1 j1 g1 (gloop J Q n) from k)
  have keep : ∀ {l l' : L} {fr : Fr} {h : AH} {μ : Mu} {w : World} {a : Act}, FR N fr l → JDropL h.j l l' → Step B0 G μ0 h0 w0 μ h w → FrRel [] μ w fr a → FR N (mkFr N l') l' ∧ FrRel [] μ w (mkFr N l') a := by
   intro l l' fr h μ w a fl d st f
   refine ⟨mkFr_FR N l', f.defers, by rw [f.size, fl.1]; rfl, fun i => ?_⟩
   have hre : Restr h.next h.tnext μ μ := ⟨fun o => by
    split
    ·rfl
    ·exact st.r.next o (by omega), fun t => by
    split
    ·rfl
    ·exact st.r.tnext t (by omega), fun _ _ => Iff.rfl⟩
   have := d i μ μ w (a.tmps.getD i undef) hre (by have := f.val i; rw [fl.2] at this; exact this)
   rw [(mkFr_FR N l').2]; exact this
  subst e
  obtain ⟨fl0, f0⟩ := keep fl d0 st f
  refine wpIn_loop_ghost (fun n a1 w1 => ∃ l1 fr1 h1 g1 μ1, J n l1 h1.j g1 ∧ FR N fr1 l1 ∧ Step B0 G μ0 h0 w0 μ1 h1 w1 ∧ FrRel [] μ1 w1 fr1 a1 ∧ BGo w0.heap.size g1 μ1 w1) n0 ⟨l0, _, h, g, μ, hi0, fl0, st, f0, bg⟩ ?_
  rintro n a1 w1 ⟨l1, fr1, h1, g1, μ1, hi, fl1, st1, f1, bg1⟩
  refine wpIn_mono (gwp_sound c ho (hs n l1 h1.j g1 hi) μ1 w1 a1 fr1 h1 rfl fl1 st1 f1 bg1) ?_
  rintro ex a2 w2 ⟨x, l2, fr2, h2, g2, μ2, q, fl2, st2, f2, hex, bg2⟩
  cases x with
  | norm =>
   simp only [ExRel] at hex; subst hex
   obtain ⟨m, l3, hm, d3, hi3⟩ := q
   obtain ⟨fl3, f3⟩ := keep fl2 d3 st2 f2
   exact ⟨m, hm, l3, _, h2, g2, μ2, hi3, fl3, st2, f3, bg2⟩
  | exit i => simp only [ExRel] at hex; subst hex; exact ⟨_, _, _, _, _, _, q, fl2, st2, f2, rfl, bg2⟩
  | ret => simp only [ExRel] at hex; subst hex; exact ⟨_, _, _, _, _, _, q, fl2, st2, f2, rfl, bg2⟩
  | pan z => obtain ⟨u, rfl, hv⟩ := hex; exact ⟨_, _, _, _, _, _, q, fl2, st2, f2, ⟨u, rfl, hv⟩, bg2⟩
 | .region id ops draw, l, j, g, Q, ho, k => fun μ w a fr h e fl st f bg => by
  subst e
  simp only [ccode] at k ho
  split at k
  rotate_left
  ·split at k
   ·exact k.elim
   ·split at k <;> exact k.elim
  rename_i hnd
  rw [if_pos hnd] at ho
  have hnd : ∀ o ∈ ops.toList, nodef o = true := List.all_eq_true.1 hnd
  split at k
  ·split at k <;> exact k.elim
  rename_i hcr
  rw [hcr] at ho
  cases hl : ciops Tryz.prog ops ops.toList with
  | none => rw [hl] at k; exact k.elim
  | some ll =>
   rw [hl] at k ho
   cases draw with
   | true =>
    simp only [if_true] at k
    rcases cdrawA_cases Tryz.prog id ops with ⟨_, _, e⟩ | ⟨_, _, _, e⟩ | ⟨_, e⟩ | e <;> rw [e] at k <;> exact k.elim
   | false =>
    simp only [Bool.false_eq_true, if_false] at k ho
    refine wpIn_region ?_
    have := gops_sound (B0 := B0) (G := G) (μ0 := μ0) (h0 := h0) (w0 := w0) (N := N) (ops := ops) (Q := FinG B0 G μ0 h0 w0 N Q) (Q' := gregQ Q)
     (fun a' w' fr' l' h' g' μ' q1 q2 q3 q4 q5 => ⟨.norm, l', fr', h', g', μ', q1, q2, q3, q4, rfl, q5⟩)
     (fun a' w' fr' l' h' g' μ' y u q1 q2 q3 q4 q5 q6 => ⟨.pan y, l', fr', h', g', μ', q1, q2, q3, q4, ⟨u, rfl, q6⟩, q5⟩) 0 ops.toList ll hl (by simp) hnd ho fl (show gops G ll l h.j g _ from k) st f bg
    rw [List.range_eq_range']
    simpa using this
 | .rangeFunc _ _ _ _, l, j, g, Q, ho, k => by simp only [ccode] at k; exact k.elim
 | .goto _, l, j, g, Q, ho, k => by exact (show False from k).elim
 | .refuse _, l, j, g, Q, ho, k => by exact (show False from k).elim
end
section
variable {G : Nat → Option (List AV)} {l : L} {j : JH} {g : GS} {Q : AX → L → JH → GS → Prop} {QO : Option AV → L → JH → GS → Prop}
theorem JC.of_gwp {f : FuncId} {k : IFn} (hf : cfunc Tryz.prog f = some k) (hnr : noRng k.ir = true) {args : List AV} (hok : okIR (max args.length k.n) k.ir = true) {j : JH} {Q : AOut → JH → Prop}
  (hw : gwp G k.ir (args0 0 args) j .pre fun x l j' _ => jend k.rs j Q x l j') : JC Tryz.prog G f args j Q := by
 rintro h rfl B0 μ w vs r hv
 unfold cfunc at hf
 split at hf
 ·rename_i fn hfn
  split at hf
  ·rename_i c rs hb hr
   cases hf
   have hcc := ccode_noRng c hnr
   simp only at hw hok
   rw [← hcc] at hw hok
   have f0 := ofArgs_rel (n := fn.ntmps) hv
   have fl : FR (max args.length fn.ntmps) (Fr.ofArgs fn.ntmps args) (args0 0 args) := ⟨rfl, fun i => by rw [Fr.get_ofArgs, lk_args0, if_pos (Nat.zero_le _), List.getD_eq_getElem?_getD]; rfl⟩
   refine callsIn_wide.1 (callsIn_of_wp_marks (n := 0) hfn hb trivial (wpIn_mono (gwp_sound c hok hw μ w _ _ h rfl fl (Step.refl r) f0 trivial) ?_))
   rintro ex a1 w1 ⟨x, l1, fr1, h1, g1, μ1, q, fl1, st, f1, hex, _⟩
   have fin : ∀ xs, aresults Tryz.prog h1 fr1 fn.results.toList = some xs → (∃ y h'', DropW h h1 h'' ∧ SubB h''.next h''.tnext (aret xs) y ∧ Q (.ret y) h''.j) →
     LeavesInM Fence.wide 0 Tryz.prog fn a1.tmps (fun e w' => ∃ out h', Q out h'.j ∧ Post B0 G μ h w out h' e w') a1.defers .returning w1 := by
    rintro xs hres ⟨y, h2, hd, hs, hq⟩
    rw [f1.defers]
    refine leave_marks (by simp) [] w1 (fun d hd => (by cases hd)) MK.nil st fun w2 st2 hk => ?_
    obtain ⟨u, hu, hvu⟩ := aret_run (P := Tryz.prog) st2.r (f1.mono (Le.refl _) hk) hres
    obtain ⟨μ2, hr2, st3⟩ := hd.step r st2
    exact ⟨u, hu, .ret y, h2, hq, μ2, st3, u, rfl, hs _ _ _ _ hr2 hvu⟩
   have done : jress l1 h1.j rs (fun xs => jfin h.j h1.j (aret xs) fun y j' => Q (.ret y) j') → LeavesInM Fence.wide 0 Tryz.prog fn a1.tmps (fun e w' => ∃ out h', Q out h'.j ∧ Post B0 G μ h w out h' e w') a1.defers .returning w1 := by
    intro k
    obtain ⟨xs, h1', y, j'', d, s, q'⟩ := wv_ex (jress_sound fl1 k)
    exact fin xs (iress_eq hr h1') ⟨y, j''.a, d.a, s, q'⟩
   cases x with
   | norm =>
    simp only [ExRel] at hex; subst hex
    exact done q
   | ret =>
    simp only [ExRel] at hex; subst hex
    exact done q
   | exit j => exact q.elim
   | pan v =>
    obtain ⟨u, rfl, hvu⟩ := hex
    obtain ⟨y, j2, hd, hs, hq⟩ := (show jfin h.j h1.j v _ from q)
    show LeavesInM Fence.wide 0 Tryz.prog fn a1.tmps _ a1.defers (.panicking _) w1
    rw [f1.defers]
    refine leave_marks (by simp) [] w1 (fun d hd => (by cases hd)) MK.nil st fun w2 st2 hk => ?_
    obtain ⟨μ2, hr2, st3⟩ := hd.a.step r st2
    exact ⟨.pan y, j2.a, hq, μ2, st3, u, rfl, hs _ _ _ _ hr2 (V.mono (Le.refl _) hk _ _ hvu)⟩
  ·cases hf
 ·cases hf
def GLOOP (G : Nat → Option (List AV)) (a : IR) (l : L) (j : JH) (g : GS) [Q : Hid (AX → L → JH → GS → Prop)] : Prop := gwp G (.loop a) l j g Q.v
theorem g_wp1 : gwp G .skip l j g Q = Q .norm l j g := rfl
theorem g_wp2 {id : Nat} : gwp G (.exit id) l j g Q = Q (.exit id) l j g := rfl
theorem g_wp3 : gwp G .ret l j g Q = Q .ret l j g := rfl
theorem g_wp4 {ops : List IOp} : gwp G (.reg ops) l j g Q = gops G ops l j g (gregQ Q) := rfl
theorem g_wp5 {a b : IR} : gwp G (.seq a b) l j g Q = gwp G a l j g (gthen (fun l j g => gwp G b l j g Q) Q) := rfl
theorem g_wp6 {x : X} {a b : IR} : gwp G (.cond x a b) l j g Q = jx G l x fun c => jbool c fun t => @ww t ⟨gwp G a l j g Q⟩ ⟨gwp G b l j g Q⟩ := rfl
theorem g_wp7 {id : Nat} {a : IR} : gwp G (.block id a) l j g Q = gwp G a l j g (gblock id Q) := rfl
theorem g_wp8 {a : IR} : gwp G (.loop a) l j g Q = @GLOOP G a l j g ⟨Q⟩ := rfl
theorem g_op0 : gops G [] l j g QO = QO none l j g := rfl
theorem g_o1 {d : Option Nat} {tx : Option X} {r : List IOp} {x : X} : gops G (⟨d, none, tx, .mov x⟩ :: r) l j g QO = jstep Tryz.prog G l j (.mov x) (joutK (fun x j' => jput l d x fun l' => gops G r l' j' g QO) fun x j' => QO (some x) l j' g) := rfl
theorem g_o2 {d : Option Nat} {tx : Option X} {r : List IOp} {t : TypeId} {x : X} : gops G (⟨d, none, tx, .box t x⟩ :: r) l j g QO = jstep Tryz.prog G l j (.box t x) (joutK (fun x j' => jput l d x fun l' => gops G r l' j' g QO) fun x j' => QO (some x) l j' g) := rfl
theorem g_o3 {d : Option Nat} {tx : Option X} {r : List IOp} {x : X} : gops G (⟨d, none, tx, .not x⟩ :: r) l j g QO = jstep Tryz.prog G l j (.not x) (joutK (fun x j' => jput l d x fun l' => gops G r l' j' g QO) fun x j' => QO (some x) l j' g) := rfl
theorem g_o4 {d : Option Nat} {tx : Option X} {r : List IOp} {n : Nat} {x : X} : gops G (⟨d, none, tx, .fadr n x⟩ :: r) l j g QO = jstep Tryz.prog G l j (.fadr n x) (joutK (fun x j' => jput l d x fun l' => gops G r l' j' g QO) fun x j' => QO (some x) l j' g) := rfl
theorem g_o5 {d : Option Nat} {tx : Option X} {r : List IOp} {n : Option Nat} {x : X} : gops G (⟨d, none, tx, .load n x⟩ :: r) l j g QO = jstep Tryz.prog G l j (.load n x) (joutK (fun x j' => jput l d x fun l' => gops G r l' j' g QO) fun x j' => QO (some x) l j' g) := rfl
theorem g_o6 {d : Option Nat} {tx : Option X} {r : List IOp} {x : X} : gops G (⟨d, none, tx, .lenl x⟩ :: r) l j g QO = jstep Tryz.prog G l j (.lenl x) (joutK (fun x j' => jput l d x fun l' => gops G r l' j' g QO) fun x j' => QO (some x) l j' g) := rfl
theorem g_o7 {d : Option Nat} {tx : Option X} {r : List IOp} {op : BinOp} {x y : X} : gops G (⟨d, none, tx, .bin op x y⟩ :: r) l j g QO = jstep Tryz.prog G l j (.bin op x y) (joutK (fun x j' => jput l d x fun l' => gops G r l' j' g QO) fun x j' => QO (some x) l j' g) := rfl
theorem g_o8 {d : Option Nat} {tx : Option X} {r : List IOp} {n : Nat} {x y : X} : gops G (⟨d, none, tx, .iasl n x y⟩ :: r) l j g QO = jstep Tryz.prog G l j (.iasl n x y) (joutK (fun x j' => jput l d x fun l' => gops G r l' j' g QO) fun x j' => QO (some x) l j' g) := rfl
theorem g_o9 {d : Option Nat} {tx : Option X} {r : List IOp} {m : String} {x : X} {xs : List X} : gops G (⟨d, none, tx, .inv m x xs⟩ :: r) l j g QO = jstep Tryz.prog G l j (.inv m x xs) (joutK (fun x j' => jput l d x fun l' => gops G r l' j' g QO) fun x j' => QO (some x) l j' g) := rfl
theorem g_oc {d : Option Nat} {tx : Option X} {r : List IOp} {f : FuncId} {xs : List X} (h1 : f ≠ 36) (h2 : f ≠ 38) : gops G (⟨d, none, tx, .call f xs⟩ :: r) l j g QO = jstep Tryz.prog G l j (.call f xs) (joutK (fun x j' => jput l d x fun l' => gops G r l' j' g QO) fun x j' => QO (some x) l j' g) := by
 have e : isB ⟨d, none, tx, .call f xs⟩ = 0 := by simp only [isB]; rw [if_neg h1, if_neg h2]
 simp only [gops, e]
 rfl
theorem g_ow {d : Option Nat} {tx : Option X} {r : List IOp} {xs : List X} : gops G (⟨d, none, tx, .call 36 xs⟩ :: r) l j g QO = jxs G l xs fun xs => gwrite g xs fun t g' => jput l d (.tup [I64 t.size, .v .nilIface]) fun l' => gops G r l' j g' QO := rfl
theorem g_os {d : Option Nat} {tx : Option X} {r : List IOp} {xs : List X} : gops G (⟨d, none, tx, .call 38 xs⟩ :: r) l j g QO = jxs G l xs fun xs => gstr g xs fun s => jput l d (STR s) fun l' => gops G r l' j .off QO := rfl
theorem g_oa {d : Option Nat} {tx : Option X} {r : List IOp} : gops G (⟨d, none, tx, .alloc BT [.v (.pointer none), .sl .nil 0 []]⟩ :: r) l j g QO = (gnew g ∧ ∀ b, jput l d (RP b) fun l' => gops G r l' j (.on b .empty) QO) := rfl
theorem g_r1 : gregQ Q none l j g = Q .norm l j g := rfl
theorem g_r2 {x : AV} : gregQ Q (some x) l j g = Q (.pan x) l j g := rfl
theorem g_t1 {K : L → JH → GS → Prop} : gthen K Q .norm l j g = K l j g := rfl
theorem g_t2 {K : L → JH → GS → Prop} : gthen K Q .ret l j g = Q .ret l j g := rfl
theorem g_t3 {K : L → JH → GS → Prop} {i : Nat} : gthen K Q (.exit i) l j g = Q (.exit i) l j g := rfl
theorem g_t4 {K : L → JH → GS → Prop} {x : AV} : gthen K Q (.pan x) l j g = Q (.pan x) l j g := rfl
theorem g_k1 {id : Nat} : gblock id Q .norm l j g = Q .norm l j g := rfl
theorem g_k2 {id : Nat} : gblock id Q .ret l j g = Q .ret l j g := rfl
theorem g_k3 {id i : Nat} : gblock id Q (.exit i) l j g = if i = id then Q .norm l j g else Q (.exit i) l j g := rfl
def GNEXT (J : Nat → L → JH → GS → Prop) (n : Nat) (l : L) (j : JH) (g : GS) : Prop := ∃ m l2, m < n ∧ JDropL j l l2 ∧ J m l2 j g
theorem g_l1 {J : Nat → L → JH → GS → Prop} {n : Nat} : gloop J Q n .norm l j g = GNEXT J n l j g := rfl
theorem g_l2 {J : Nat → L → JH → GS → Prop} {n : Nat} : gloop J Q n .ret l j g = Q .ret l j g := rfl
theorem g_l3 {J : Nat → L → JH → GS → Prop} {n i : Nat} : gloop J Q n (.exit i) l j g = Q (.exit i) l j g := rfl
theorem g_w1 {b : Nat} {s t : ByteArray} {K : ByteArray → GS → Prop} : gwrite (.on b s) [RP b, STR t] K = @wc (t.size ≠ 0 ∧ s.size + t.size ≤ 140737488355328) ⟨K t (.on b (s ++ t))⟩ := by
 unfold gwrite wc; simp
theorem g_w2 {b : Nat} {s : ByteArray} {K : ByteArray → Prop} : gstr (.on b s) [RP b] K = K s := by
 unfold gstr; simp
theorem GLOOP.of {a : IR} {σ : Type} (I : σ → Prop) (μ : σ → Nat) (F : σ → L) (S : σ → GS) (s0 : σ) (h0 : I s0) (e0 : g = S s0) (d1 : DL j.next j.tnext l (F s0))
  (step : ∀ s, I s → gwp G a (F s) j (S s) (gloop (fun n l j' g => ∃ s, I s ∧ μ s = n ∧ l = F s ∧ j' = j ∧ g = S s) Q (μ s))) : @GLOOP G a l j g ⟨Q⟩ := by
 refine ⟨fun n l j' g => ∃ s, I s ∧ μ s = n ∧ l = F s ∧ j' = j ∧ g = S s, ⟨μ s0, F s0, d1.drop, s0, h0, rfl, rfl, rfl, e0⟩, ?_⟩
 rintro n l1 j1 g1 ⟨s, hs, rfl, rfl, rfl, rfl⟩
 exact step s hs
theorem GNEXT.of {σ : Type} {I : σ → Prop} {μ : σ → Nat} {F : σ → L} {S : σ → GS} {n : Nat} {j0 : JH} {l' : L} (s : σ) (hs : I s) (hm : μ s < n) (e : g = S s) (d1 : DL j0.next j0.tnext l' (F s)) :
  GNEXT (fun n l j' g => ∃ s, I s ∧ μ s = n ∧ l = F s ∧ j' = j0 ∧ g = S s) n l' j0 g := ⟨μ s, F s, hm, d1.drop, s, hs, rfl, rfl, rfl, e⟩
end
def gr := And.intro @g_wp1 (And.intro @g_wp2 (And.intro @g_wp3 (And.intro @g_wp4 (And.intro @g_wp5 (And.intro @g_wp6 (And.intro @g_wp7 (And.intro @g_wp8 (And.intro @g_op0 (And.intro @g_o1 (And.intro @g_o2 (And.intro @g_o3 (And.intro @g_o4 (And.intro @g_o5 (And.intro @g_o6 (And.intro @g_o7 (And.intro @g_o8 (And.intro @g_o9 (And.intro @g_oc (And.intro @g_ow (And.intro @g_os (And.intro @g_oa (And.intro @g_r1 (And.intro @g_r2 (And.intro @g_t1 (And.intro @g_t2 (And.intro @g_t3 (And.intro @g_t4 (And.intro @g_k1 (And.intro @g_k2 (And.intro @g_k3 (And.intro @g_l1 (And.intro @g_l2 (And.intro @g_l3 (And.intro @g_w1 (@g_w2)))))))))))))))))))))))))))))))))))
end
end Go.Proofs.YtcjlpklgnknpgaaGreatDoor.Pg
