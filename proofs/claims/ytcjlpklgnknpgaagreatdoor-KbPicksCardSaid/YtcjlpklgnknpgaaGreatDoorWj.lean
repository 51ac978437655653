/-
  The string of a knowledge base: the program.
-/
import Derived.Test.YtcjlpklgnknpgaaGreatDoorWh
import Derived.Test.YtcjlpklgnknpgaaGreatDoorWd
set_option linter.unusedVariables false
set_option linter.unusedSimpArgs false
set_option maxRecDepth 100000
set_option maxHeartbeats 8000000
namespace Go.Proofs.YtcjlpklgnknpgaaGreatDoor.Pg
open Go
structure BasW (b : Bas) : Prop where
 n : namesOK b.nms = true
 c : b.count ≤ 60
 i : ∀ x ∈ b.incls, conOK b.nms x.sub = true ∧ conOK b.nms x.sup = true
 r : ∀ x ∈ b.roles, (0 ≤ x.sub ∧ x.sub < 2 * (b.nms.rs.length : Int)) ∧ 0 ≤ x.sup ∧ x.sup < 2 * (b.nms.rs.length : Int)
 f : ∀ x ∈ b.facts, (0 ≤ x.ind ∧ x.ind < b.nms.is.length) ∧ conOK b.nms x.con = true
 l : ∀ x ∈ b.links, (0 ≤ x.role ∧ x.role < b.nms.rs.length) ∧ (0 ≤ x.fr ∧ x.fr < b.nms.is.length) ∧ 0 ≤ x.to ∧ x.to < b.nms.is.length
theorem basV_W {b : Bas} (h : basV b = true) : BasW b := by
 rw [← basR_eq] at h
 unfold basR at h
 simp only [Bool.and_eq_true, decide_eq_true_eq, List.all_eq_true] at h
 obtain ⟨⟨h1, h2⟩, h3, h4, h5, h6, h7⟩ := h
 refine ⟨h1, h2, fun x hx => ?_, fun x hx => ?_, fun x hx => ?_, fun x hx => ?_⟩
 ·obtain ⟨m1, m2⟩ := mem_consI hx
  exact ⟨h3 _ (by unfold Bas.cons; exact List.mem_append.2 (.inl m1)), h3 _ (by unfold Bas.cons; exact List.mem_append.2 (.inl m2))⟩
 ·have := h4 x hx
  unfold rolOK at this
  simp only [Bool.and_eq_true, decide_eq_true_eq] at this
  exact this
 ·have := h5 x hx
  unfold indOK at this
  simp only [Bool.and_eq_true, decide_eq_true_eq] at this
  exact ⟨this, h3 _ (by unfold Bas.cons; exact List.mem_append.2 (.inr (mem_consF hx)))⟩
 ·have := h6 x hx
  unfold lnkOK indOK at this
  simp only [Bool.and_eq_true, decide_eq_true_eq] at this
  obtain ⟨⟨⟨a1, a2⟩, a3⟩, a4⟩ := this
  exact ⟨⟨a1, a2⟩, a3, a4⟩
theorem namesOK_len' {n : Nms} (h : namesOK n = true) : n.cs.length ≤ 16 ∧ n.rs.length ≤ 6 ∧ n.is.length ≤ 10 := by
 unfold namesOK at h
 simp only [Bool.and_eq_true, decide_eq_true_eq] at h
 exact ⟨h.1.1.1, h.1.1.2, h.1.2⟩
theorem news_size : ∀ {l seen : List ByteArray}, newsOK seen l = true → ∀ s ∈ l, s.size ≤ 12
 | [], seen, _ => fun s h => by simp at h
 | t :: l, seen, h => by
  simp only [newsOK, Bool.and_eq_true, Bool.not_eq_true', decide_eq_false_iff_not] at h
  obtain ⟨⟨h1, h2⟩, h3⟩ := h
  intro s hs
  rcases List.mem_cons.1 hs with rfl | hs
  ·unfold nameOK at h1
   simp only [Bool.and_eq_true, decide_eq_true_eq] at h1
   exact h1.1.1
  ·exact news_size h3 s hs
theorem namesOK_size {n : Nms} (h : namesOK n = true) : (∀ s ∈ n.cs, s.size ≤ 12) ∧ (∀ s ∈ n.rs, s.size ≤ 12) ∧ ∀ s ∈ n.is, s.size ≤ 12 := by
 unfold namesOK at h
 simp only [Bool.and_eq_true] at h
 have := news_size h.2
 exact ⟨fun s q => this s (by simp [q]), fun s q => this s (by simp [q]), fun s q => this s (by simp [q])⟩
theorem BasW.small {b : Bas} (h : BasW b) (hn : b.nms.ok) : SmallN b.nms :=
 ⟨hn, fun s q => Nat.le_trans ((namesOK_size h.n).1 s q) (by omega), fun s q => Nat.le_trans ((namesOK_size h.n).2.1 s q) (by omega), fun s q => Nat.le_trans ((namesOK_size h.n).2.2 s q) (by omega)⟩
theorem conOK_of {n : Nms} {c : Con} (h : conOK n c = true) : shaped n.cs.length n.rs.length c = true ∧ c.nodes ≤ 400 := by
 unfold conOK at h
 simp only [Bool.and_eq_true, decide_eq_true_eq] at h
 exact ⟨h.2, h.1.1⟩
theorem BasW.ax {b : Bas} (h : BasW b) (hb : b.ok) : ∀ x ∈ b.axs, AxOK b.nms x := by
 intro x hx
 unfold Bas.axs at hx
 simp only [List.mem_append, List.mem_map] at hx
 rcases hx with ((⟨y, hy, rfl⟩ | ⟨y, hy, rfl⟩) | ⟨y, hy, rfl⟩) | ⟨y, hy, rfl⟩
 ·obtain ⟨h1, h2⟩ := h.i y hy
  obtain ⟨o1, o2⟩ := hb.incls y hy
  exact ⟨⟨o1, (conOK_of h1).1, Nat.le_trans (conOK_of h1).2 (by omega)⟩, o2, (conOK_of h2).1, Nat.le_trans (conOK_of h2).2 (by omega)⟩
 ·exact h.r y hy
 ·obtain ⟨h1, h2⟩ := h.f y hy
  exact ⟨h1, (hb.facts y hy).2, (conOK_of h2).1, Nat.le_trans (conOK_of h2).2 (by omega)⟩
 ·exact h.l y hy
theorem nthS_le {l : List ByteArray} {k : Nat} {m : Nat} (h : ∀ s ∈ l, s.size ≤ m) : (nthS l k).size ≤ m := by
 unfold nthS
 cases h1 : l[k]? with
 | none => exact Nat.zero_le _
 | some s => exact h s (List.mem_of_getElem? h1)
theorem axStr_size {n : Nms} (hn : SmallN n) {x : Ax} (hx : AxOK n x) : (x.str n).size ≤ 220001000 := by
 have q3 : (⟨#[32, 60, 32]⟩ : ByteArray).size = 3 := rfl
 have q3' : (⟨#[32, 58, 32]⟩ : ByteArray).size = 3 := rfl
 have q5 : (⟨#[114, 111, 108, 101, 32]⟩ : ByteArray).size = 5 := rfl
 have q1 : (⟨#[40]⟩ : ByteArray).size = 1 := rfl
 have q2 : (⟨#[44, 32]⟩ : ByteArray).size = 2 := rfl
 have q4 : (⟨#[41, 32, 58, 32]⟩ : ByteArray).size = 4 := rfl
 cases x with
 | inc x =>
  obtain ⟨⟨_, _, h3⟩, _, _, h6⟩ := hx
  have z1 := strC_size hn.c hn.r x.sub
  have z2 := strC_size hn.c hn.r x.sup
  simp only [Ax.str, ba_size_append]; omega
 | rol x =>
  have z1 := roleS_size (m := n) (r := x.sub) hn.r
  have z2 := roleS_size (m := n) (r := x.sup) hn.r
  simp only [Ax.str, ba_size_append]; omega
 | fac x =>
  obtain ⟨_, _, _, h6⟩ := hx
  have z1 := strC_size hn.c hn.r x.con
  have z2 := nthS_le (k := x.ind.toNat) hn.i
  simp only [Ax.str, ba_size_append]; omega
 | lnk x =>
  have z1 := nthS_le (k := x.role.toNat) hn.r
  have z2 := nthS_le (k := x.fr.toNat) hn.i
  have z3 := nthS_le (k := x.to.toNat) hn.i
  simp only [Ax.str, ba_size_append]; omega
theorem linesS_size {p : ByteArray} {m : Nat} : ∀ {l : List ByteArray}, (∀ s ∈ l, s.size ≤ m) → (linesS p l).size ≤ l.length * (p.size + m + 1)
 | [], _ => Nat.zero_le _
 | s :: l, h => by
  have i := linesS_size (p := p) (m := m) (l := l) fun s q => h s (List.mem_cons_of_mem _ q)
  have := h s List.mem_cons_self
  have q : (⟨#[10]⟩ : ByteArray).size = 1 := rfl
  simp only [linesS, ba_size_append, List.length_cons, Nat.add_mul, Nat.one_mul] at *
  omega
theorem ba_assoc (a b c : ByteArray) : a ++ b ++ c = a ++ (b ++ c) := by
 apply ByteArray.ext
 simp only [ByteArray.data_append, Array.append_assoc]
theorem ba_nil (a : ByteArray) : a ++ (⟨#[]⟩ : ByteArray) = a := by
 apply ByteArray.ext
 simp [ByteArray.data_append]
theorem nil_ba (a : ByteArray) : (⟨#[]⟩ : ByteArray) ++ a = a := by
 apply ByteArray.ext
 simp [ByteArray.data_append]
theorem linesS_cons {p s : ByteArray} {l : List ByteArray} {a : ByteArray} : a ++ linesS p (s :: l) = a ++ (p ++ s ++ ⟨#[10]⟩) ++ linesS p l := by
 rw [linesS, ba_assoc a, ba_assoc]
theorem axs_dr {l : List Ax} {k : Nat} : (axs l).drop k = axs (l.drop k) := by simp [axs, List.map_drop]
theorem axs_co {x : Ax} {l : List Ax} : axs (x :: l) = x.enc :: axs l := rfl
section
variable {m : GM}
theorem s_axText (n : Nms) (hn : SmallN n) {x : Ax} (hx : AxOK n x) {j : JH} {K : AOut → JH → Prop} (k : K (.ret (STR (x.str n))) j) :
  jinv Tryz.prog "isagoge/kb.text" x.enc fun g y => @JCs Tryz.prog (GG m) g (y :: [.agg n.enc]) j ⟨K⟩ := by
 cases x with
 | inc x =>
  have e : mtv Tryz.prog 139 "isagoge/kb.text" = some 201 := by kernel_rfl
  simp only [Ax.enc, jinv, e, wv_some]
  exact JCs.ret (s_inclText n hn x hx _) k
 | rol x =>
  have e : mtv Tryz.prog 140 "isagoge/kb.text" = some 204 := by kernel_rfl
  simp only [Ax.enc, jinv, e, wv_some]
  exact JCs.ret (s_roleText n hn x hx _) k
 | fac x =>
  have e : mtv Tryz.prog 141 "isagoge/kb.text" = some 205 := by kernel_rfl
  simp only [Ax.enc, jinv, e, wv_some]
  exact JCs.ret (s_factText n hn x hx _) k
 | lnk x =>
  have e : mtv Tryz.prog 142 "isagoge/kb.text" = some 206 := by kernel_rfl
  simp only [Ax.enc, jinv, e, wv_some]
  exact JCs.ret (s_linkText n hn x hx _) k
noncomputable def ir10 : IFn := ⟨70, [⟨2, none⟩, ⟨3, none⟩], (.seq (.reg [oA 1 (.box 30 (.r 0)), oA 2 (.mov (.k (.v (.string ⟨#[]⟩)))), oA 3 (.mov (kI 0))]) (.seq (.seq (.reg [oL 13 1 (some 7), oT 14 13 (.call 35 [.r 13]), oA 15 (.not (.r 14))]) (.cond (.r 15) (.seq (.reg [oA 2 (.mov (.k (.v (.string ⟨#[]⟩)))), oA 3 (.mov (kI 20))]) .ret) .skip)) (.seq (.reg [oA 4 (.alloc 77 [.v (.pointer none), .sl .nil 0 []])]) (.seq (.seq (.reg [oA 16 (.fadr 0 (.r 1)), oA 17 (.fadr 0 (.r 16)), oL 18 17 none, oT 19 18 (.lenl (.r 18)), oA 20 (.mov (kI 0))]) (.block 0 (.loop (.seq (.reg [oA 21 (.bin .lss (.r 20) (.r 19))]) (.seq (.cond (.r 21) .skip (.exit 0)) (.seq (.block 1 (.seq (.reg [oA 22 (.iasl 1 (.r 18) (.r 20)), oL 23 22 none, oA 6 (kM 23)]) (.reg [oA 24 (kM 6), oA 25 (.bin .add (.k (.v (.string ⟨#[99, 111, 110, 99, 101, 112, 116, 32]⟩))) (.r 24)), oA 26 (.bin .add (.r 25) (.k (.v (.string ⟨#[10]⟩)))), oA 27 (.call 36 [.r 4, .r 26])]))) (.reg [oA 28 (.bin .add (.r 20) (kI 1)), oA 20 (kM 28)]))))))) (.seq (.seq (.reg [oA 29 (.fadr 0 (.r 1)), oA 30 (.fadr 1 (.r 29)), oL 31 30 none, oT 32 31 (.lenl (.r 31)), oA 33 (.mov (kI 0))]) (.block 2 (.loop (.seq (.reg [oA 34 (.bin .lss (.r 33) (.r 32))]) (.seq (.cond (.r 34) .skip (.exit 2)) (.seq (.block 3 (.seq (.reg [oA 35 (.iasl 1 (.r 31) (.r 33)), oL 36 35 none, oA 8 (kM 36)]) (.reg [oA 37 (kM 8), oA 38 (.bin .add (.k (.v (.string ⟨#[114, 111, 108, 101, 32]⟩))) (.r 37)), oA 39 (.bin .add (.r 38) (.k (.v (.string ⟨#[10]⟩)))), oA 40 (.call 36 [.r 4, .r 39])]))) (.reg [oA 41 (.bin .add (.r 33) (kI 1)), oA 33 (kM 41)]))))))) (.seq (.seq (.reg [oA 42 (.fadr 0 (.r 1)), oA 43 (.fadr 2 (.r 42)), oL 44 43 none, oT 45 44 (.lenl (.r 44)), oA 46 (.mov (kI 0))]) (.block 4 (.loop (.seq (.reg [oA 47 (.bin .lss (.r 46) (.r 45))]) (.seq (.cond (.r 47) .skip (.exit 4)) (.seq (.block 5 (.seq (.reg [oA 48 (.iasl 1 (.r 44) (.r 46)), oL 49 48 none, oA 10 (kM 49)]) (.reg [oA 50 (kM 10), oA 51 (.bin .add (.k (.v (.string ⟨#[105, 110, 100, 32]⟩))) (.r 50)), oA 52 (.bin .add (.r 51) (.k (.v (.string ⟨#[10]⟩)))), oA 53 (.call 36 [.r 4, .r 52])]))) (.reg [oA 54 (.bin .add (.r 46) (kI 1)), oA 46 (kM 54)]))))))) (.seq (.seq (.reg [oL 55 1 (some 7), oT 56 55 (.call 37 [.r 55]), oT 57 56 (.lenl (.r 56)), oA 58 (.mov (kI 0))]) (.block 6 (.loop (.seq (.reg [oA 59 (.bin .lss (.r 58) (.r 57))]) (.seq (.cond (.r 59) .skip (.exit 6)) (.seq (.block 7 (.seq (.reg [oA 60 (.iasl 1 (.r 56) (.r 58)), oL 61 60 none, oA 12 (kM 61)]) (.reg [oA 62 (kM 12), oA 63 (.fadr 0 (.r 1)), oL 64 63 (some 3), oT 65 64 (.inv "isagoge/kb.text" (.r 62) [.r 64]), oA 66 (.bin .add (.r 65) (.k (.v (.string ⟨#[10]⟩)))), oA 67 (.call 36 [.r 4, .r 66])]))) (.reg [oA 68 (.bin .add (.r 58) (kI 1)), oA 58 (kM 68)]))))))) (.seq (.reg [oT 69 4 (.call 38 [.r 4]), oA 2 (kM 69), oA 3 (.mov (kI 0))]) .ret))))))))⟩
theorem c10 : cfunc Tryz.prog 10 = some ir10 := by kernel_rfl
theorem k10 : okIR (max 1 ir10.n) ir10.ir = true := by decide +kernel
theorem s_kbString (b : Bas) (hb : b.ok) (hf : b.few) (j : JH) : JC Tryz.prog (GG m) 10 [.agg b.enc] j (RET (.tup [STR (kbS b), I64 (basE b)]) j) := by
 refine JC.low (JC.of_gwp (j := ext j []) c10 (by decide +kernel) (by exact k10) ?_)
 (try simp only[↓jr,jw,seval,↓gr,ir10])
 refine JCs.ret (s_kbValid b hb hf _) ?_
 (try simp only[↓jr,jw,seval,↓gr])
 refine ww.intro (fun hv => ?_) (fun hv => ?_)
 rotate_left
 ·(try simp only[↓jr,jw,seval,↓gr])
  unfold kbS basE
  rw [hv]
  (try simp only[↓jr,jw,seval,↓gr])
  refine JFIN.rb ?_
  exact SubB.tup ⟨SubB.v, SubB.v, True.intro⟩
 have hw := basV_W hv
 have hsm := hw.small hb.nms
 obtain ⟨l1, l2, l3⟩ := namesOK_len' hw.n
 obtain ⟨z1, z2, z3⟩ := namesOK_size hw.n
 have hcnt := hw.c
 have hax := hw.ax hb
 have hal : b.axs.length ≤ 60 := by unfold Bas.axs; unfold Bas.count at hcnt; simp; omega
 have q8 : (⟨#[99, 111, 110, 99, 101, 112, 116, 32]⟩ : ByteArray).size = 8 := rfl
 have q5 : (⟨#[114, 111, 108, 101, 32]⟩ : ByteArray).size = 5 := rfl
 have q4 : (⟨#[105, 110, 100, 32]⟩ : ByteArray).size = 4 := rfl
 have q1 : (⟨#[10]⟩ : ByteArray).size = 1 := rfl
 have q0 : (⟨#[]⟩ : ByteArray).size = 0 := rfl
 have q0' : (ByteArray.empty).size = 0 := rfl
 obtain ⟨T0, hT0⟩ : ∃ T, T = linesS (⟨#[99, 111, 110, 99, 101, 112, 116, 32]⟩ : ByteArray) b.nms.cs := ⟨_, rfl⟩
 obtain ⟨T1, hT1⟩ : ∃ T, T = T0 ++ linesS (⟨#[114, 111, 108, 101, 32]⟩ : ByteArray) b.nms.rs := ⟨_, rfl⟩
 obtain ⟨T2, hT2⟩ : ∃ T, T = T1 ++ linesS (⟨#[105, 110, 100, 32]⟩ : ByteArray) b.nms.is := ⟨_, rfl⟩
 obtain ⟨T3, hT3⟩ : ∃ T, T = T2 ++ linesS ⟨#[]⟩ (b.axs.map (Ax.str b.nms)) := ⟨_, rfl⟩
 have hT : T3 = kbS b := by unfold kbS; rw [if_pos hv, hT3, hT2, hT1, hT0]; rfl
 have y0 : T0.size ≤ 16 * 21 := by rw [hT0]; exact Nat.le_trans (linesS_size z1) (Nat.mul_le_mul l1 (by omega))
 have y1 : T1.size ≤ 16 * 21 + 6 * 18 := by rw [hT1, ba_size_append]; have := Nat.le_trans (linesS_size (p := (⟨#[114, 111, 108, 101, 32]⟩ : ByteArray)) z2) (Nat.mul_le_mul l2 (show _ ≤ 18 by omega)); omega
 have y2 : T2.size ≤ 16 * 21 + 6 * 18 + 10 * 17 := by rw [hT2, ba_size_append]; have := Nat.le_trans (linesS_size (p := (⟨#[105, 110, 100, 32]⟩ : ByteArray)) z3) (Nat.mul_le_mul l3 (show _ ≤ 17 by omega)); omega
 have y3 : T3.size ≤ 90000000000 := by
  rw [hT3, ba_size_append]
  have := Nat.le_trans (linesS_size (p := ⟨#[]⟩) (m := 220001000) (l := b.axs.map (Ax.str b.nms)) (fun s hs => by obtain ⟨x, hx, rfl⟩ := List.mem_map.1 hs; exact axStr_size hsm (hax x hx))) (Nat.mul_le_mul (by rw [List.length_map]; exact hal) (show _ ≤ 220001001 by omega))
  omega
 (try simp only[↓jr,jw,seval,↓gr])
 refine ⟨trivial, fun p => ?_⟩
 (try simp only[↓jr,jw,seval,↓gr])
 refine GLOOP.of (σ := Nat × ByteArray) (fun s => s.1 ≤ (b.nms.cs).length ∧ s.2 ++ linesS (⟨#[99, 111, 110, 99, 101, 112, 116, 32]⟩ : ByteArray) ((b.nms.cs).drop s.1) = T0) (fun s => (b.nms.cs).length - s.1)
  (fun s => [(20, I64 s.1), (19, I64 (b.nms.cs).length), (18, .sl .none (b.nms.cs).length (strs (b.nms.cs))), (1, .ptr (pid j.next 0) 0), (4, RP p)]) (fun s => .on p s.2) (0, .empty) ⟨Nat.zero_le _, by simp only [List.drop_zero]; rw [hT0]; exact nil_ba _⟩ rfl ?_ ?_
 ·(try simp only[↓jr,jw,seval,↓gr,DL])
  exact ⟨SubB.v, SubB.v, SubB.pure (by simp only [AV.pure]; exact strs_pur _), SubB.ptr (by unfold pid; omega), SubB.v⟩
 rintro ⟨k, ac⟩ ⟨hk, hI⟩
 simp only at hk hI
 (try simp only[↓jr,jw,seval,↓gr])
 refine wq.intro (fun h1 => ?_) (fun h1 => ?_)
 ·have hlt : k < (b.nms.cs).length := by omega
  obtain ⟨x, r, hd⟩ : ∃ c_ l_, List.drop k (b.nms.cs) = c_ :: l_ := ⟨_, _, List.drop_eq_getElem_cons hlt⟩
  have hd1 : List.drop (k + 1) (b.nms.cs) = r := by rw [← List.drop_drop, hd]; rfl
  have hmem : x ∈ b.nms.cs := List.mem_of_mem_drop (hd ▸ List.mem_cons_self)
  have hx := z1 x hmem
  have ha : ac.size ≤ 100000000000 := by have := congrArg ByteArray.size hI; rw [ba_size_append] at this; omega
  rw [hd] at hI
  (try simp only[↓jr,jw,seval,↓gr,hd])
  refine wc.intro (by omega) ?_
  (try simp only[↓jr,jw,seval,↓gr,hd])
  refine wc.intro (by omega) ?_
  (try simp only[↓jr,jw,seval,↓gr])
  refine wc.intro (by rw [ba_size_append]; omega) ?_
  (try simp only[↓jr,jw,seval,↓gr])
  refine wc.intro (by simp only [ba_size_append]; omega) ?_
  (try simp only[↓jr,jw,seval,↓gr])
  refine wc.intro (by unfold R64; omega) ?_
  (try simp only[↓jr,jw,seval,↓gr])
  refine GNEXT.of (k + 1, ac ++ ((⟨#[99, 111, 110, 99, 101, 112, 116, 32]⟩ : ByteArray) ++ x ++ ⟨#[10]⟩)) ⟨by simp only; omega, by simp only [hd1]; rw [← hI, linesS_cons]⟩ (by simp only; omega) rfl ?_
  (try simp only[↓jr,jw,seval,↓gr,DL])
  exact ⟨SubB.v, SubB.v, SubB.pure (by simp only [AV.pure]; exact strs_pur _), SubB.ptr (by unfold pid; omega), SubB.v⟩
 (try simp only[↓jr,jw,seval,↓gr])
 rw [List.drop_eq_nil_of_le (by omega)] at hI
 rw [show linesS (⟨#[99, 111, 110, 99, 101, 112, 116, 32]⟩ : ByteArray) [] = (⟨#[]⟩ : ByteArray) from rfl, ba_nil] at hI
 subst hI
 clear h1 hk
 refine GLOOP.of (σ := Nat × ByteArray) (fun s => s.1 ≤ (b.nms.rs).length ∧ s.2 ++ linesS (⟨#[114, 111, 108, 101, 32]⟩ : ByteArray) ((b.nms.rs).drop s.1) = T1) (fun s => (b.nms.rs).length - s.1)
  (fun s => [(33, I64 s.1), (32, I64 (b.nms.rs).length), (31, .sl .none (b.nms.rs).length (strs (b.nms.rs))), (1, .ptr (pid j.next 0) 0), (4, RP p)]) (fun s => .on p s.2) (0, ac) ⟨Nat.zero_le _, by simp only [List.drop_zero]; exact hT1.symm⟩ rfl ?_ ?_
 ·(try simp only[↓jr,jw,seval,↓gr,DL])
  exact ⟨SubB.v, SubB.v, SubB.pure (by simp only [AV.pure]; exact strs_pur _), SubB.ptr (by unfold pid; omega), SubB.v⟩
 rintro ⟨k, ac⟩ ⟨hk, hI⟩
 simp only at hk hI
 (try simp only[↓jr,jw,seval,↓gr])
 refine wq.intro (fun h1 => ?_) (fun h1 => ?_)
 ·have hlt : k < (b.nms.rs).length := by omega
  obtain ⟨x, r, hd⟩ : ∃ c_ l_, List.drop k (b.nms.rs) = c_ :: l_ := ⟨_, _, List.drop_eq_getElem_cons hlt⟩
  have hd1 : List.drop (k + 1) (b.nms.rs) = r := by rw [← List.drop_drop, hd]; rfl
  have hmem : x ∈ b.nms.rs := List.mem_of_mem_drop (hd ▸ List.mem_cons_self)
  have hx := z2 x hmem
  have ha : ac.size ≤ 100000000000 := by have := congrArg ByteArray.size hI; rw [ba_size_append] at this; omega
  rw [hd] at hI
  (try simp only[↓jr,jw,seval,↓gr,hd])
  refine wc.intro (by omega) ?_
  (try simp only[↓jr,jw,seval,↓gr,hd])
  refine wc.intro (by omega) ?_
  (try simp only[↓jr,jw,seval,↓gr])
  refine wc.intro (by rw [ba_size_append]; omega) ?_
  (try simp only[↓jr,jw,seval,↓gr])
  refine wc.intro (by simp only [ba_size_append]; omega) ?_
  (try simp only[↓jr,jw,seval,↓gr])
  refine wc.intro (by unfold R64; omega) ?_
  (try simp only[↓jr,jw,seval,↓gr])
  refine GNEXT.of (k + 1, ac ++ ((⟨#[114, 111, 108, 101, 32]⟩ : ByteArray) ++ x ++ ⟨#[10]⟩)) ⟨by simp only; omega, by simp only [hd1]; rw [← hI, linesS_cons]⟩ (by simp only; omega) rfl ?_
  (try simp only[↓jr,jw,seval,↓gr,DL])
  exact ⟨SubB.v, SubB.v, SubB.pure (by simp only [AV.pure]; exact strs_pur _), SubB.ptr (by unfold pid; omega), SubB.v⟩
 (try simp only[↓jr,jw,seval,↓gr])
 rw [List.drop_eq_nil_of_le (by omega)] at hI
 rw [show linesS (⟨#[114, 111, 108, 101, 32]⟩ : ByteArray) [] = (⟨#[]⟩ : ByteArray) from rfl, ba_nil] at hI
 subst hI
 clear h1 hk
 refine GLOOP.of (σ := Nat × ByteArray) (fun s => s.1 ≤ (b.nms.is).length ∧ s.2 ++ linesS (⟨#[105, 110, 100, 32]⟩ : ByteArray) ((b.nms.is).drop s.1) = T2) (fun s => (b.nms.is).length - s.1)
  (fun s => [(46, I64 s.1), (45, I64 (b.nms.is).length), (44, .sl .none (b.nms.is).length (strs (b.nms.is))), (1, .ptr (pid j.next 0) 0), (4, RP p)]) (fun s => .on p s.2) (0, ac) ⟨Nat.zero_le _, by simp only [List.drop_zero]; exact hT2.symm⟩ rfl ?_ ?_
 ·(try simp only[↓jr,jw,seval,↓gr,DL])
  exact ⟨SubB.v, SubB.v, SubB.pure (by simp only [AV.pure]; exact strs_pur _), SubB.ptr (by unfold pid; omega), SubB.v⟩
 rintro ⟨k, ac⟩ ⟨hk, hI⟩
 simp only at hk hI
 (try simp only[↓jr,jw,seval,↓gr])
 refine wq.intro (fun h1 => ?_) (fun h1 => ?_)
 ·have hlt : k < (b.nms.is).length := by omega
  obtain ⟨x, r, hd⟩ : ∃ c_ l_, List.drop k (b.nms.is) = c_ :: l_ := ⟨_, _, List.drop_eq_getElem_cons hlt⟩
  have hd1 : List.drop (k + 1) (b.nms.is) = r := by rw [← List.drop_drop, hd]; rfl
  have hmem : x ∈ b.nms.is := List.mem_of_mem_drop (hd ▸ List.mem_cons_self)
  have hx := z3 x hmem
  have ha : ac.size ≤ 100000000000 := by have := congrArg ByteArray.size hI; rw [ba_size_append] at this; omega
  rw [hd] at hI
  (try simp only[↓jr,jw,seval,↓gr,hd])
  refine wc.intro (by omega) ?_
  (try simp only[↓jr,jw,seval,↓gr,hd])
  refine wc.intro (by omega) ?_
  (try simp only[↓jr,jw,seval,↓gr])
  refine wc.intro (by rw [ba_size_append]; omega) ?_
  (try simp only[↓jr,jw,seval,↓gr])
  refine wc.intro (by simp only [ba_size_append]; omega) ?_
  (try simp only[↓jr,jw,seval,↓gr])
  refine wc.intro (by unfold R64; omega) ?_
  (try simp only[↓jr,jw,seval,↓gr])
  refine GNEXT.of (k + 1, ac ++ ((⟨#[105, 110, 100, 32]⟩ : ByteArray) ++ x ++ ⟨#[10]⟩)) ⟨by simp only; omega, by simp only [hd1]; rw [← hI, linesS_cons]⟩ (by simp only; omega) rfl ?_
  (try simp only[↓jr,jw,seval,↓gr,DL])
  exact ⟨SubB.v, SubB.v, SubB.pure (by simp only [AV.pure]; exact strs_pur _), SubB.ptr (by unfold pid; omega), SubB.v⟩
 (try simp only[↓jr,jw,seval,↓gr])
 rw [List.drop_eq_nil_of_le (by omega)] at hI
 rw [show linesS (⟨#[105, 110, 100, 32]⟩ : ByteArray) [] = (⟨#[]⟩ : ByteArray) from rfl, ba_nil] at hI
 subst hI
 clear h1 hk
 have hcn : b.incls.length ≤ 1000000 ∧ b.roles.length ≤ 1000000 ∧ b.facts.length ≤ 1000000 ∧ b.links.length ≤ 1000000 := by unfold Bas.count at hcnt; omega
 refine JCs.ret (s_kbAll b hcn.1 hcn.2.1 hcn.2.2.1 hcn.2.2.2 _) ?_
 (try simp only[↓jr,jw,seval,↓gr])
 refine GLOOP.of (σ := Nat × ByteArray) (fun s => s.1 ≤ b.axs.length ∧ s.2 ++ linesS ⟨#[]⟩ ((b.axs.drop s.1).map (Ax.str b.nms)) = T3) (fun s => b.axs.length - s.1)
  (fun s => [(58, I64 s.1), (57, I64 b.axs.length), (56, .sl .none b.axs.length (axs b.axs)), (1, .ptr (pid j.next 0) 0), (4, RP p)]) (fun s => .on p s.2) (0, ac) ⟨Nat.zero_le _, by simp only [List.drop_zero]; exact hT3.symm⟩ rfl ?_ ?_
 ·(try simp only[↓jr,jw,seval,↓gr,DL])
  exact ⟨SubB.v, SubB.v, SubB.pure (by simp only [AV.pure]; exact axs_pur _), SubB.ptr (by unfold pid; omega), SubB.v⟩
 rintro ⟨k, ac⟩ ⟨hk, hI⟩
 simp only at hk hI
 (try simp only[↓jr,jw,seval,↓gr])
 refine wq.intro (fun h1 => ?_) (fun h1 => ?_)
 ·have hlt : k < (b.axs).length := by omega
  obtain ⟨x, r, hd⟩ : ∃ c_ l_, List.drop k (b.axs) = c_ :: l_ := ⟨_, _, List.drop_eq_getElem_cons hlt⟩
  have hd1 : List.drop (k + 1) (b.axs) = r := by rw [← List.drop_drop, hd]; rfl
  have hmem : x ∈ b.axs := List.mem_of_mem_drop (hd ▸ List.mem_cons_self)
  have hx := hax x hmem
  have hz := axStr_size hsm hx
  have ha : ac.size ≤ 100000000000 := by have := congrArg ByteArray.size hI; rw [ba_size_append] at this; omega
  rw [hd, List.map_cons] at hI
  (try simp only[↓jr,jw,seval,↓gr,hd,axs_dr,axs_co,axs_len])
  refine wc.intro (by omega) ?_
  (try simp only[↓jr,jw,seval,↓gr,hd,axs_dr,axs_co,axs_len])
  refine s_axText b.nms hsm hx ?_
  (try simp only[↓jr,jw,seval,↓gr])
  refine wc.intro (by omega) ?_
  (try simp only[↓jr,jw,seval,↓gr])
  refine wc.intro (by simp only [ba_size_append]; omega) ?_
  (try simp only[↓jr,jw,seval,↓gr])
  refine wc.intro (by unfold R64; omega) ?_
  (try simp only[↓jr,jw,seval,↓gr])
  refine GNEXT.of (k + 1, ac ++ (x.str b.nms ++ ⟨#[10]⟩)) ⟨by simp only; omega, by simp only [hd1]; rw [← hI, linesS_cons, nil_ba]⟩ (by simp only; omega) rfl ?_
  (try simp only[↓jr,jw,seval,↓gr,DL])
  exact ⟨SubB.v, SubB.v, SubB.pure (by simp only [AV.pure]; exact axs_pur _), SubB.ptr (by unfold pid; omega), SubB.v⟩
 (try simp only[↓jr,jw,seval,↓gr])
 rw [List.drop_eq_nil_of_le (by omega)] at hI
 rw [show linesS ⟨#[]⟩ (List.map (Ax.str b.nms) []) = (⟨#[]⟩ : ByteArray) from rfl, ba_nil] at hI
 subst hI
 refine JFIN.rb ?_
 rw [hT]
 unfold basE
 rw [if_pos hv]
 exact SubB.tup ⟨SubB.v, SubB.v, True.intro⟩
end
end Go.Proofs.YtcjlpklgnknpgaaGreatDoor.Pg
