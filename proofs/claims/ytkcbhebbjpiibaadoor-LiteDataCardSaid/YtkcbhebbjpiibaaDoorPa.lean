/-
  What the program tells of individuals.
-/
import Derived.Test.YtkcbhebbjpiibaaDoorPe
import Derived.Test.YtkcbhebbjpiibaaDoorOe
set_option linter.unusedVariables false
set_option linter.unusedSimpArgs false
set_option linter.defProp false
set_option maxRecDepth 20000
set_option maxHeartbeats 1000000
namespace Go.Proofs.YtkcbhebbjpiibaaDoor.Pg
open Go
theorem sbPa {A : Prop} (h : A := by repeat' (first | exact trivial | refine And.intro ?_ ?_ | exact SubB.v | exact SubB.any | ((first | refine SubB.ptr ?_ | refine SubB.arr ?_ | refine SubB.mp ?_) <;> first | assumption | (unfold pid; omega)) | ((first | refine SubB.pure ?_ | refine SubBs.pure ?_) <;> (simp only [AV.pure, AV.pures, pures_append, jpu, rrow_pur, rb_pur, natv_pur, Bool.and_self, Bool.and_true, Bool.true_and]; done)) | refine SubB.fn ?_ ?_ | refine SubB.sl ?_ ?_ | refine SubB.agg ?_ | refine SubB.tup ?_ | rfl)) : A := h
variable {m : Int} {G : Nat → Option (List AV)}
theorem rwn_at {L : List (List Nat)} {k : Nat} {x : List Nat} (h : L[k]? = some x) : icut none (rwn L) k = some (.sl .none x.length (natv x)) := by
  unfold icut rwn; simp only [List.getElem?_map, h, Option.map_some]
def ir71 : IFn := ⟨29, [⟨6, none⟩], (.seq (.reg [oA 3 (.box 86 (.r 0)), oA 6 (.mov (kB false))]) (.seq (.seq (.reg [oA 9 (.fadr 8 (.r 3)), oL 10 9 none, oA 11 (kM 1), oA 12 (.iasl 1 (.r 10) (.r 11)), oL 13 12 none, oT 14 13 (.lenl (.r 13)), oA 15 (.mov (kI 0))]) (.block 0 (.loop (.seq (.reg [oA 16 (.bin .lss (.r 15) (.r 14))]) (.seq (.cond (.r 16) .skip (.exit 0)) (.seq (.block 1 (.seq (.reg [oA 17 (.iasl 1 (.r 13) (.r 15)), oL 18 17 none, oA 8 (kM 18)]) (.seq (.reg [oA 19 (.fadr 0 (.r 3)), oL 20 19 none, oA 21 (kM 8), oA 22 (kM 2), oA 23 (.nchk (.r 20)), oA 24 (.fadr 0 (.r 23)), oA 25 (.iaar 28 28 (.r 24) (.r 21)), oA 26 (.iaar 28 1 (.r 25) (.r 22)), oL 27 26 none]) (.cond (.r 27) (.seq (.reg [oA 6 (.mov (kB true))]) .ret) .skip)))) (.reg [oA 28 (.bin .add (.r 15) (kI 1)), oA 15 (kM 28)]))))))) (.seq (.reg [oA 6 (.mov (kB false))]) .ret)))⟩
theorem c71 : cfunc Tryd.prog 71 = some ir71 := by kernel_rfl
theorem k71 : okIR (max 3 ir71.n) ir71.ir = true := by decide +kernel
theorem s_Wis (b : Bas) (o r N n i c : Nat) (L : List (List Nat)) (x : List Nat) (j : JH) (hr : r < j.next) (ho : o < j.next) (hgr : j.get r = some (.cells 117 (rb N))) (hgo : j.get o = some (.cells 129 (rwn L))) (hi : i < n) (hx : L[i]? = some x) (hxl : x.length ≤ 1000000) (hx28 : ∀ d ∈ x, d < 28) (hc : c < 28) :
    JC Tryd.prog G 71 [.agg (AV.ptr r 0 :: (b.enc ++ [AV.arr o 0 n])), I64 i, I64 c] j (RET (BOO (x.any fun d => rch N d c)) j) := by
  have hld := rwn_at hx
  refine JC.run hmix c71 (by exact k71) ?_
  (try simp only[↓jr,jw,seval,sp_b6,sp_b7,ext_get_old,hr,ho,hgr,hgo,natv_len,natv_drop,natv_cons,rb_ld,rb_len,hld,ir71])
  refine wc.intro (by omega) ?_
  (try simp only[↓jr,jw,seval,sp_b6,sp_b7,ext_get_old,hr,ho,hgr,hgo,natv_len,natv_drop,natv_cons,rb_ld,rb_len,hld])
  refine JLOOP.of (σ := Nat) (fun k => k ≤ x.length ∧ (x.drop k).any (fun d => rch N d c) = x.any (fun d => rch N d c)) (fun k => x.length - k)
    (fun k => [(15, I64 k), (14, I64 x.length), (13, .sl .none x.length (natv x)), (3, .ptr (pid j.next 0) 0), (2, I64 c)])
    (fun _ => ext j [.cells 86 (AV.ptr r 0 :: (b.enc ++ [AV.arr o 0 n]))]) 0 ⟨Nat.zero_le _, rfl⟩ ?_ (JDropH.refl _) ?_
  · (try simp only[↓jr,jw,seval,sp_b6,sp_b7,ext_get_old,hr,ho,hgr,hgo,natv_len,natv_drop,natv_cons,rb_ld,rb_len,hld,DL])
    exact ⟨SubB.v, SubB.v, SubB.sl rfl (SubBs.pure (natv_pur _)), SubB.ptr (by unfold pid; omega), SubB.v⟩
  rintro k ⟨hk, hI⟩
  (try simp only[↓jr,jw,seval,sp_b6,sp_b7,ext_get_old,hr,ho,hgr,hgo,natv_len,natv_drop,natv_cons,rb_ld,rb_len,hld])
  refine wq.intro (fun g1 => ?_) (fun g1 => ?_)
  · have hlt : k < (x).length := by omega
    obtain ⟨d, rx, hd⟩ : ∃ c_ l_, List.drop k (x) = c_ :: l_ := ⟨_, _, List.drop_eq_getElem_cons hlt⟩
    have hd1 : List.drop (k + 1) (x) = rx := by rw [← List.drop_drop, hd]; rfl
    have hmem : d ∈ x := List.mem_of_mem_drop (hd ▸ List.mem_cons_self)
    rw [hd, List.any_cons] at hI
    have hd28 := hx28 d hmem
    (try simp only[↓jr,jw,seval,sp_b6,sp_b7,ext_get_old,hr,ho,hgr,hgo,natv_len,natv_drop,natv_cons,rb_ld,rb_len,hld,hd])
    refine wc.intro (by omega) ?_
    (try simp only[↓jr,jw,seval,sp_b6,sp_b7,ext_get_old,hr,ho,hgr,hgo,natv_len,natv_drop,natv_cons,rb_ld,rb_len,hld,hd])
    refine wc.intro (by omega) ?_
    (try simp only[↓jr,jw,seval,sp_b6,sp_b7,ext_get_old,hr,ho,hgr,hgo,natv_len,natv_drop,natv_cons,rb_ld,rb_len,hld])
    refine wc.intro (by omega) ?_
    (try simp only[↓jr,jw,seval,sp_b6,sp_b7,ext_get_old,hr,ho,hgr,hgo,natv_len,natv_drop,natv_cons,rb_ld,rb_len,hld])
    refine wc.intro (by omega) ?_
    (try simp only[↓jr,jw,seval,sp_b6,sp_b7,ext_get_old,hr,ho,hgr,hgo,natv_len,natv_drop,natv_cons,rb_ld,rb_len,hld])
    refine ww.intro (fun q1 => ?_) (fun q1 => ?_)
    · (try simp only[↓jr,jw,seval,sp_b6,sp_b7,ext_get_old,hr,ho,hgr,hgo,natv_len,natv_drop,natv_cons,rb_ld,rb_len,hld])
      refine JFIN.rb ?_
      rw [← hI, show rch N d c = true from q1]; exact SubB.v
    · (try simp only[↓jr,jw,seval,sp_b6,sp_b7,ext_get_old,hr,ho,hgr,hgo,natv_len,natv_drop,natv_cons,rb_ld,rb_len,hld])
      rw [show rch N d c = false from q1, Bool.false_or] at hI
      refine wc.intro (by unfold R64; omega) ?_
      (try simp only[↓jr,jw,seval,sp_b6,sp_b7,ext_get_old,hr,ho,hgr,hgo,natv_len,natv_drop,natv_cons,rb_ld,rb_len,hld])
      refine JNEXT.of (k + 1) ⟨by omega, by rw [hd1]; exact hI⟩ (by omega) ?_ JDropH.nx
      (try simp only[↓jr,jw,seval,sp_b6,sp_b7,ext_get_old,hr,ho,hgr,hgo,natv_len,natv_drop,natv_cons,rb_ld,rb_len,hld,DL])
      exact ⟨SubB.eqi (by omega), SubB.v, SubB.sl rfl (SubBs.pure (natv_pur _)), SubB.ptr (by unfold pid; omega), SubB.v⟩
  · (try simp only[↓jr,jw,seval,sp_b6,sp_b7,ext_get_old,hr,ho,hgr,hgo,natv_len,natv_drop,natv_cons,rb_ld,rb_len,hld])
    rw [List.drop_eq_nil_of_le (by omega)] at hI
    refine JFIN.rb ?_
    rw [← hI]; exact SubB.v
def insE (b : Bas) (c : Con) (ind : Int) : Int := if basV b = false then 20 else if conOK b.nms c = false then 10 else if (fitR b && basC c) = false then 100 else if indOK b.nms ind then 0 else 1
def isV (b : Bas) (i c : Nat) : Bool := (stD b.dat i).any fun d => rch (rulesN b) d c
def insV (b : Bas) (c : Con) (ind : Int) : Bool := decide (insE b c ind = 0) && (isV b ind.toNat (numC c).toNat || !soundB b)
theorem sp_w1 {b : Bas} {x a : AV} {a1 a2 a3 a4 a5 a6 a7 a8 a9 : AV} : splice [a1, a2, a3, a4, a5, a6, a7, a8, a9] 0 (x :: (b.enc ++ [a])) = x :: (b.enc ++ [a]) := rfl
theorem sp_w2 {b : Bas} {x a : AV} : icut (some 9) (x :: (b.enc ++ [a])) 0 = some (.agg (x :: (b.enc ++ [a]))) := rfl
theorem sp_w3 {b : Bas} {x : AV} {o n : Nat} {p q : Nat} : (AV.ptr p q :: (b.enc ++ [AV.arr o 0 n])).all AV.one = true := rfl
theorem sayL_at {b : Bas} {i : Nat} (h : i < b.nms.is.length) : (sayL b)[i]? = some (stD b.dat i) := by
  unfold sayL; rw [List.getElem?_map, List.getElem?_range h]; rfl
def ir33 : IFn := ⟨54, [⟨6, none⟩, ⟨7, none⟩], (.seq (.reg [oA 3 (.box 30 (.r 0)), oA 5 (.box 43 (.r 2)), oA 6 (.mov (kB false)), oA 7 (.mov (kI 0))]) (.seq (.seq (.reg [oL 11 3 (some 7), oT 12 11 (.call 53 [.r 11]), oA 13 (.bin .neq (.r 12) (kI 0))]) (.cond (.r 13) (.seq (.reg [oA 6 (.mov (kB false)), oA 7 (.mov (kI 20))]) .ret) .skip)) (.seq (.seq (.reg [oA 14 (.fadr 0 (.r 3)), oL 15 14 (some 3), oL 16 5 (some 3), oA 17 (.call 54 [.r 15, .r 16]), oA 18 (.bin .neq (.r 17) (kI 0))]) (.cond (.r 18) (.seq (.reg [oA 6 (.mov (kB false)), oA 7 (.mov (kI 10))]) .ret) .skip)) (.seq (.reg [oL 20 5 (some 3), oT 21 20 (.call 55 [.r 20]), oA 19 (kM 21), oA 22 (.ext (.r 19) 0), oA 23 (.ext (.r 19) 1), oA 8 (kM 22), oA 9 (kM 23)]) (.seq (.block 0 (.seq (.reg [oL 25 3 (some 7), oT 26 25 (.call 57 [.r 25]), oA 27 (.not (.r 26)), oA 28 (kM 27), ⟨(some 29), (some ((28, false))), none, (kM 9)⟩, ⟨(some 30), (some ((28, false))), none, (.not (.r 29))⟩, oA 31 (.pick (.r 28) (kB true) (.r 30)), oA 24 (kM 31)]) (.cond (.r 24) (.seq (.reg [oA 6 (.mov (kB false)), oA 7 (.mov (kI 100))]) .ret) (.seq (.reg [oA 33 (kM 1), oA 34 (.bin .lss (.r 33) (kI 0)), oA 35 (kM 34), ⟨(some 36), (some ((35, false))), none, (kM 1)⟩, ⟨(some 37), (some ((35, false))), none, (.fadr 0 (.r 3))⟩, ⟨(some 38), (some ((35, false))), none, (.fadr 2 (.r 37))⟩, ⟨(some 39), (some ((35, false))), (some (.r 38)), (.load none (.r 38))⟩, ⟨(some 40), (some ((35, false))), (some (.r 39)), (.lenl (.r 39))⟩, ⟨(some 41), (some ((35, false))), none, (.bin .geq (.r 36) (.r 40))⟩, oA 42 (.pick (.r 35) (kB true) (.r 41)), oA 32 (kM 42)]) (.cond (.r 32) (.seq (.reg [oA 6 (.mov (kB false)), oA 7 (.mov (kI 1))]) .ret) .skip))))) (.seq (.reg [oL 43 3 (some 7), oT 44 43 (.call 46 [.r 43]), oA 10 (.alloc 86 [.v (.pointer none), .sl .nil 0 [], .sl .nil 0 [], .sl .nil 0 [], .sl .nil 0 [], .sl .nil 0 [], .sl .nil 0 [], .sl .nil 0 [], .sl .nil 0 []]), oN (.store 9 (.r 10) (.r 44))]) (.seq (.reg [oL 45 10 (some 9), oA 46 (kM 1), oA 47 (kM 8), oA 48 (.call 71 [.r 45, .r 46, .r 47]), oA 49 (kM 48), ⟨(some 50), (some ((49, false))), (some (.r 10)), (.load (some 9) (.r 10))⟩, ⟨(some 51), (some ((49, false))), (some (.r 50)), (.call 47 [.r 50])⟩, ⟨(some 52), (some ((49, false))), none, (.not (.r 51))⟩, oA 53 (.pick (.r 49) (kB true) (.r 52)), oA 6 (kM 53), oA 7 (.mov (kI 0))]) .ret)))))))⟩
theorem c33 : cfunc Tryd.prog 33 = some ir33 := by kernel_rfl
theorem k33 : okIR (max 3 ir33.n) ir33.ir = true := by decide +kernel
theorem s_Instance (b : Bas) (c : Con) (ind : Int) (hb : b.ok) (hf : b.few) (hc : c.ok) (hc4 : c.nodes ≤ 4000000000) (j : JH) : JC Tryd.prog (GG m) 33 [.agg b.enc, I64 ind, .agg c.enc] j (RET (.tup [BOO (insV b c ind), I64 (insE b c ind)]) j) := by
  have fls : ∀ {l : List AObj} {e : Int}, insE b c ind = e → e ≠ 0 → @JFIN (ext j []) (ext j l) (.tup [BOO false, I64 e]) ⟨fun y j' => RET (.tup [BOO (insV b c ind), I64 (insE b c ind)]) j (.ret y) j'⟩ := by
    intro l e h1 h2
    refine JFIN.rb ?_
    unfold insV; rw [h1, decide_eq_false h2, Bool.false_and]; exact sbPa
  refine JC.run hmix c33 (by exact k33) ?_
  (try simp only[↓jr,jw,seval,rb_ld,rb_len,jq2,ext_ext,pid_pid,sp_w1,sp_w2,sp_w3,sp_b4,ir33])
  refine JCs.ret (s_kbCheck b hb hf _) ?_
  by_cases h : basV b = true
  · have h' : basR b = true := by rw [basR_eq]; exact h
    have hn := basR_names h'
    have hni := (basR_said h').ni
    rw [if_pos h]
    (try simp only[↓jr,jw,seval,rb_ld,rb_len,jq2,ext_ext,pid_pid,sp_w1,sp_w2,sp_w3,sp_b4])
    refine JCs.ret (s_Check b.nms hb.nms hb.short c hc hc4 _) ?_
    rw [fineE_one hn]
    by_cases q1 : conOK b.nms c = true
    · rw [if_pos q1]
      (try simp only[↓jr,jw,seval,rb_ld,rb_len,jq2,ext_ext,pid_pid,sp_w1,sp_w2,sp_w3,sp_b4])
      have sc := conOK_shaped q1
      obtain ⟨x, e1, l1⟩ := numC_lt hn sc
      refine JCs.ret (s_of c (shaped_hd sc) (shaped_r16 hn sc) _) ?_
      (try simp only[↓jr,jw,seval,rb_ld,rb_len,jq2,ext_ext,pid_pid,sp_w1,sp_w2,sp_w3,sp_b4])
      refine JCs.ret (s_fits b hb (basR_hds h') (basR_rs h') _) ?_
      (try simp only[↓jr,jw,seval,rb_ld,rb_len,jq2,ext_ext,pid_pid,sp_w1,sp_w2,sp_w3,sp_b4])
      have bad : (fitR b && basC c) = false → insE b c ind = 100 := fun q => by
        unfold insE; rw [h, q1, q]; simp
      refine ww.intro (fun q3 => ?_) (fun q3 => by (try simp only[↓jr,jw,seval,rb_ld,rb_len,jq2,ext_ext,pid_pid,sp_w1,sp_w2,sp_w3,sp_b4]); exact fls (bad (by rw [q3]; rfl)) (by decide))
      (try simp only[↓jr,jw,seval,rb_ld,rb_len,jq2,ext_ext,pid_pid,sp_w1,sp_w2,sp_w3,sp_b4])
      refine ww.intro (fun q4 => ?_) (fun q4 => by (try simp only[↓jr,jw,seval,rb_ld,rb_len,jq2,ext_ext,pid_pid,sp_w1,sp_w2,sp_w3,sp_b4]); exact fls (bad (by rw [q3, q4]; rfl)) (by decide))
      (try simp only[↓jr,jw,seval,rb_ld,rb_len,jq2,ext_ext,pid_pid,sp_w1,sp_w2,sp_w3,sp_b4])
      have bad2 : indOK b.nms ind = false → insE b c ind = 1 := fun q => by
        unfold insE; rw [h, q1, q3, q4, q]; simp
      refine wq.intro (fun q5 => ?_) (fun q5 => ?_)
      · (try simp only[↓jr,jw,seval,rb_ld,rb_len,jq2,ext_ext,pid_pid,sp_w1,sp_w2,sp_w3,sp_b4])
        exact fls (bad2 (by unfold indOK; rw [decide_eq_false (by omega)]; rfl)) (by decide)
      (try simp only[↓jr,jw,seval,rb_ld,rb_len,jq2,ext_ext,pid_pid,sp_w1,sp_w2,sp_w3,sp_b4])
      refine wq.intro (fun q6 => ?_) (fun q6 => ?_)
      · (try simp only[↓jr,jw,seval,rb_ld,rb_len,jq2,ext_ext,pid_pid,sp_w1,sp_w2,sp_w3,sp_b4])
        exact fls (bad2 (by unfold indOK; rw [decide_eq_false (show ¬ ind < b.nms.is.length by omega), Bool.and_false])) (by decide)
      (try simp only[↓jr,jw,seval,rb_ld,rb_len,jq2,ext_ext,pid_pid,sp_w1,sp_w2,sp_w3,sp_b4])
      obtain ⟨i, ei, li⟩ : ∃ i : Nat, ind = i ∧ i < b.nms.is.length := ⟨ind.toNat, by omega, by omega⟩
      subst ei
      have e0 : insE b c i = 0 := by
        unfold insE; rw [h, q1, q3, q4]; unfold indOK; rw [decide_eq_true (by omega), decide_eq_true (by omega)]; simp
      have hso := sayL_ok (basR_said h')
      have hat := sayL_at li
      have hm := List.mem_of_getElem? hat
      rw [e1]
      refine JCs.ret (s_WorldOf b hb h' _) ?_
      (try simp only[↓jr,jw,seval,rb_ld,rb_len,jq2,ext_ext,pid_pid,sp_w1,sp_w2,sp_w3,sp_b4])
      refine wc.intro (by first | trivial | exact ⟨rfl, by decide, rfl⟩ | (simp only [sp_w3]; decide) | trace_state) ?_
      (try simp only[↓jr,jw,seval,rb_ld,rb_len,jq2,ext_ext,pid_pid,sp_w1,sp_w2,sp_w3,sp_b4])
      refine JCs.ret (s_Wis b (pid j.next 7) (pid j.next 5) (rulesN b) _ i x (sayL b) (stD b.dat i) _ (by rw [ext_next]; unfold pid; simp) (by rw [ext_next]; unfold pid; simp) (by rw [ext_get_new rfl]; rfl) (by rw [ext_get_new rfl]; rfl) li hat (hso.1 _ hm) (hso.2 _ hm) l1) ?_
      have eI : ((stD b.dat i).any fun d => rch (rulesN b) d x) = isV b i (numC c).toNat := by unfold isV; rw [e1, Int.toNat_natCast]
      rw [eI]
      have eV : insV b c i = (isV b i (numC c).toNat || !soundB b) := by unfold insV; rw [e0, decide_eq_true rfl, Bool.true_and, Int.toNat_natCast]
      generalize isV b i (numC c).toNat = IS at eV ⊢
      (try simp only[↓jr,jw,seval,rb_ld,rb_len,jq2,ext_ext,pid_pid,sp_w1,sp_w2,sp_w3,sp_b4])
      refine ww.intro (fun q7 => ?_) (fun q7 => ?_)
      · (try simp only[↓jr,jw,seval,rb_ld,rb_len,jq2,ext_ext,pid_pid,sp_w1,sp_w2,sp_w3,sp_b4])
        refine JFIN.rb ?_
        rw [eV, e0, q7]; exact sbPa
      · (try simp only[↓jr,jw,seval,rb_ld,rb_len,jq2,ext_ext,pid_pid,sp_w1,sp_w2,sp_w3,sp_b4])
        refine JCs.ret (s_Sound b (pid j.next 7) (pid j.next 5) (rulesN b) _ (sayL b) _ (by rw [ext_next]; unfold pid; simp) (by rw [ext_next]; unfold pid; simp) (by rw [ext_get_new rfl]; rfl) (by rw [ext_get_new rfl]; rfl) (sayL_len b) (by omega) hso.1 hso.2) ?_
        rw [soundB_all]
        (try simp only[↓jr,jw,seval,rb_ld,rb_len,jq2,ext_ext,pid_pid,sp_w1,sp_w2,sp_w3,sp_b4])
        refine JFIN.rb ?_
        rw [eV, e0, q7, Bool.false_or]; exact sbPa
    · rw [if_neg q1]
      (try simp only[↓jr,jw,seval,rb_ld,rb_len,jq2,ext_ext,pid_pid,sp_w1,sp_w2,sp_w3,sp_b4])
      exact fls (by unfold insE; rw [h]; simp [q1]) (by decide)
  · rw [if_neg h]
    (try simp only[↓jr,jw,seval,rb_ld,rb_len,jq2,ext_ext,pid_pid,sp_w1,sp_w2,sp_w3,sp_b4])
    exact fls (by unfold insE; simp [h]) (by decide)
def lnkE (b : Bas) (role fr to : Int) : Int := if askE b = 0 then (if rolOK b.nms role && (indOK b.nms fr && indOK b.nms to) then 0 else 1) else askE b
def lnkV (b : Bas) (role fr to : Int) : Bool := decide (lnkE b role fr to = 0) && (b.links.any (pairF (rulesN b) role.toNat fr.toNat to.toNat) || !soundB b)
def ir34 : IFn := ⟨63, [⟨8, none⟩, ⟨9, none⟩], (.seq (.reg [oA 4 (.box 30 (.r 0)), oA 8 (.mov (kB false)), oA 9 (.mov (kI 0))]) (.seq (.seq (.reg [oL 13 4 (some 7), oT 14 13 (.call 45 [.r 13]), oA 10 (kM 14)]) (.seq (.reg [oA 15 (kM 10), oA 16 (.bin .neq (.r 15) (kI 0))]) (.cond (.r 16) (.seq (.reg [oA 17 (kM 10), oA 8 (.mov (kB false)), oA 9 (kM 17)]) .ret) .skip))) (.seq (.reg [oA 18 (.fadr 0 (.r 4)), oA 19 (.fadr 2 (.r 18)), oL 20 19 none, oT 21 20 (.lenl (.r 20)), oA 11 (kM 21)]) (.seq (.seq (.reg [oA 22 (kM 1), oA 23 (.bin .lss (.r 22) (kI 0)), oA 24 (kM 23), ⟨(some 25), (some ((24, false))), none, (kM 1)⟩, ⟨(some 26), (some ((24, false))), none, (.fadr 0 (.r 4))⟩, ⟨(some 27), (some ((24, false))), none, (.fadr 1 (.r 26))⟩, ⟨(some 28), (some ((24, false))), (some (.r 27)), (.load none (.r 27))⟩, ⟨(some 29), (some ((24, false))), (some (.r 28)), (.lenl (.r 28))⟩, ⟨(some 30), (some ((24, false))), none, (.bin .mul (kI 2) (.r 29))⟩, ⟨(some 31), (some ((24, false))), none, (.bin .geq (.r 25) (.r 30))⟩, oA 32 (.pick (.r 24) (kB true) (.r 31)), oA 33 (kM 32), ⟨(some 34), (some ((33, false))), none, (kM 2)⟩, ⟨(some 35), (some ((33, false))), none, (.bin .lss (.r 34) (kI 0))⟩, oA 36 (.pick (.r 33) (kB true) (.r 35)), oA 37 (kM 36), ⟨(some 38), (some ((37, false))), none, (kM 2)⟩, ⟨(some 39), (some ((37, false))), none, (kM 11)⟩, ⟨(some 40), (some ((37, false))), none, (.bin .geq (.r 38) (.r 39))⟩, oA 41 (.pick (.r 37) (kB true) (.r 40)), oA 42 (kM 41), ⟨(some 43), (some ((42, false))), none, (kM 3)⟩, ⟨(some 44), (some ((42, false))), none, (.bin .lss (.r 43) (kI 0))⟩, oA 45 (.pick (.r 42) (kB true) (.r 44)), oA 46 (kM 45), ⟨(some 47), (some ((46, false))), none, (kM 3)⟩, ⟨(some 48), (some ((46, false))), none, (kM 11)⟩, ⟨(some 49), (some ((46, false))), none, (.bin .geq (.r 47) (.r 48))⟩, oA 50 (.pick (.r 46) (kB true) (.r 49))]) (.cond (.r 50) (.seq (.reg [oA 8 (.mov (kB false)), oA 9 (.mov (kI 1))]) .ret) .skip)) (.seq (.reg [oL 51 4 (some 7), oT 52 51 (.call 46 [.r 51]), oA 12 (.alloc 86 [.v (.pointer none), .sl .nil 0 [], .sl .nil 0 [], .sl .nil 0 [], .sl .nil 0 [], .sl .nil 0 [], .sl .nil 0 [], .sl .nil 0 [], .sl .nil 0 []]), oN (.store 9 (.r 12) (.r 52))]) (.seq (.reg [oL 53 12 (some 9), oA 54 (kM 1), oA 55 (kM 2), oA 56 (kM 3), oA 57 (.call 72 [.r 53, .r 54, .r 55, .r 56]), oA 58 (kM 57), ⟨(some 59), (some ((58, false))), (some (.r 12)), (.load (some 9) (.r 12))⟩, ⟨(some 60), (some ((58, false))), (some (.r 59)), (.call 47 [.r 59])⟩, ⟨(some 61), (some ((58, false))), none, (.not (.r 60))⟩, oA 62 (.pick (.r 58) (kB true) (.r 61)), oA 8 (kM 62), oA 9 (.mov (kI 0))]) .ret))))))⟩
theorem c34 : cfunc Tryd.prog 34 = some ir34 := by kernel_rfl
theorem k34 : okIR (max 4 ir34.n) ir34.ir = true := by decide +kernel
theorem s_Linked (b : Bas) (role fr to : Int) (hb : b.ok) (hf : b.few) (j : JH) : JC Tryd.prog (GG m) 34 [.agg b.enc, I64 role, I64 fr, I64 to] j (RET (.tup [BOO (lnkV b role fr to), I64 (lnkE b role fr to)]) j) := by
  have fls : ∀ {l : List AObj} {e : Int}, lnkE b role fr to = e → e ≠ 0 → @JFIN (ext j []) (ext j l) (.tup [BOO false, I64 e]) ⟨fun y j' => RET (.tup [BOO (lnkV b role fr to), I64 (lnkE b role fr to)]) j (.ret y) j'⟩ := by
    intro l e h1 h2
    refine JFIN.rb ?_
    unfold lnkV; rw [h1, decide_eq_false h2, Bool.false_and]; exact sbPa
  refine JC.run hmix c34 (by exact k34) ?_
  (try simp only[↓jr,jw,seval,rb_ld,rb_len,jq2,ext_ext,pid_pid,sp_w1,sp_w2,sp_w3,sp_b4,ir34])
  refine JCs.ret (s_asks b hb hf _) ?_
  (try simp only[↓jr,jw,seval,rb_ld,rb_len,jq2,ext_ext,pid_pid,sp_w1,sp_w2,sp_w3,sp_b4])
  refine wq.intro (fun h => ?_) (fun h => ?_)
  · have h' := (askE_basR h).1
    have hni := (basR_said h').ni
    have h2 := basR_few2 h'
    have h2r := h2.r
    have er : (2 : Int) * (b.nms.rs.length : Int) = (b.kr : Int) := by unfold Bas.kr; omega
    have bad : (rolOK b.nms role && (indOK b.nms fr && indOK b.nms to)) = false → lnkE b role fr to = 1 := fun q => by unfold lnkE; rw [if_pos h, q]; rfl
    have n1 : ¬ (0 ≤ role ∧ role < b.kr) → rolOK b.nms role = false := fun q => by
      rw [Bool.eq_false_iff]; intro g; unfold rolOK at g; simp only [Bool.and_eq_true, decide_eq_true_eq] at g; exact q ⟨g.1, by omega⟩
    have n2 : ∀ x : Int, ¬ (0 ≤ x ∧ x < b.nms.is.length) → indOK b.nms x = false := fun x q => by
      rw [Bool.eq_false_iff]; intro g; unfold indOK at g; simp only [Bool.and_eq_true, decide_eq_true_eq] at g; exact q g
    have b1 : ¬ (0 ≤ role ∧ role < b.kr) → lnkE b role fr to = 1 := fun q => bad (by rw [n1 q]; rfl)
    have b2 : ¬ (0 ≤ fr ∧ fr < b.nms.is.length) → lnkE b role fr to = 1 := fun q => bad (by rw [n2 _ q, Bool.false_and, Bool.and_false])
    have b3 : ¬ (0 ≤ to ∧ to < b.nms.is.length) → lnkE b role fr to = 1 := fun q => bad (by rw [n2 _ q, Bool.and_false, Bool.and_false])
    (try simp only[↓jr,jw,seval,rb_ld,rb_len,jq2,ext_ext,pid_pid,sp_w1,sp_w2,sp_w3,sp_b4])
    refine wq.intro (fun q1 => by (try simp only[↓jr,jw,seval,rb_ld,rb_len,jq2,ext_ext,pid_pid,sp_w1,sp_w2,sp_w3,sp_b4]); exact fls (b1 (by omega)) (by decide)) (fun q1 => ?_)
    (try simp only[↓jr,jw,seval,rb_ld,rb_len,jq2,ext_ext,pid_pid,sp_w1,sp_w2,sp_w3,sp_b4])
    refine wr.in (by unfold R64; omega) ?_
    rw [er]
    (try simp only[↓jr,jw,seval,rb_ld,rb_len,jq2,ext_ext,pid_pid,sp_w1,sp_w2,sp_w3,sp_b4])
    refine wq.intro (fun q2 => by (try simp only[↓jr,jw,seval,rb_ld,rb_len,jq2,ext_ext,pid_pid,sp_w1,sp_w2,sp_w3,sp_b4]); exact fls (b1 (by omega)) (by decide)) (fun q2 => ?_)
    (try simp only[↓jr,jw,seval,rb_ld,rb_len,jq2,ext_ext,pid_pid,sp_w1,sp_w2,sp_w3,sp_b4])
    refine wq.intro (fun q3 => by (try simp only[↓jr,jw,seval,rb_ld,rb_len,jq2,ext_ext,pid_pid,sp_w1,sp_w2,sp_w3,sp_b4]); exact fls (b2 (by omega)) (by decide)) (fun q3 => ?_)
    (try simp only[↓jr,jw,seval,rb_ld,rb_len,jq2,ext_ext,pid_pid,sp_w1,sp_w2,sp_w3,sp_b4])
    refine wq.intro (fun q4 => by (try simp only[↓jr,jw,seval,rb_ld,rb_len,jq2,ext_ext,pid_pid,sp_w1,sp_w2,sp_w3,sp_b4]); exact fls (b2 (by omega)) (by decide)) (fun q4 => ?_)
    (try simp only[↓jr,jw,seval,rb_ld,rb_len,jq2,ext_ext,pid_pid,sp_w1,sp_w2,sp_w3,sp_b4])
    refine wq.intro (fun q5 => by (try simp only[↓jr,jw,seval,rb_ld,rb_len,jq2,ext_ext,pid_pid,sp_w1,sp_w2,sp_w3,sp_b4]); exact fls (b3 (by omega)) (by decide)) (fun q5 => ?_)
    (try simp only[↓jr,jw,seval,rb_ld,rb_len,jq2,ext_ext,pid_pid,sp_w1,sp_w2,sp_w3,sp_b4])
    refine wq.intro (fun q6 => by (try simp only[↓jr,jw,seval,rb_ld,rb_len,jq2,ext_ext,pid_pid,sp_w1,sp_w2,sp_w3,sp_b4]); exact fls (b3 (by omega)) (by decide)) (fun q6 => ?_)
    (try simp only[↓jr,jw,seval,rb_ld,rb_len,jq2,ext_ext,pid_pid,sp_w1,sp_w2,sp_w3,sp_b4])
    obtain ⟨r, er2, lr⟩ : ∃ r : Nat, role = r ∧ r < b.kr := ⟨role.toNat, by omega, by omega⟩
    obtain ⟨x, ex, lx⟩ : ∃ x : Nat, fr = x ∧ x < b.nms.is.length := ⟨fr.toNat, by omega, by omega⟩
    obtain ⟨y, ey, ly⟩ : ∃ y : Nat, to = y ∧ y < b.nms.is.length := ⟨to.toNat, by omega, by omega⟩
    subst er2 ex ey
    have e0 : lnkE b r x y = 0 := by
      unfold lnkE; rw [if_pos h, if_pos]
      unfold rolOK indOK
      simp only [Bool.and_eq_true, decide_eq_true_eq]
      omega
    have hso := sayL_ok (basR_said h')
    refine JCs.ret (s_WorldOf b hb h' _) ?_
    (try simp only[↓jr,jw,seval,rb_ld,rb_len,jq2,ext_ext,pid_pid,sp_w1,sp_w2,sp_w3,sp_b4])
    refine wc.intro (by first | trivial | exact ⟨rfl, by decide, rfl⟩ | (simp only [sp_w3]; decide) | trace_state) ?_
    (try simp only[↓jr,jw,seval,rb_ld,rb_len,jq2,ext_ext,pid_pid,sp_w1,sp_w2,sp_w3,sp_b4])
    refine JCs.ret (s_Pair b (basR_said h') (pid j.next 4) (rulesN b) r x y _ _ (by rw [ext_next]; unfold pid; simp) (by rw [ext_get_new rfl]; rfl) (by omega)) ?_
    have eV : lnkV b r x y = (b.links.any (pairF (rulesN b) r x y) || !soundB b) := by unfold lnkV; rw [e0, decide_eq_true rfl, Bool.true_and, Int.toNat_natCast, Int.toNat_natCast, Int.toNat_natCast]
    generalize b.links.any (pairF (rulesN b) r x y) = IS at eV ⊢
    (try simp only[↓jr,jw,seval,rb_ld,rb_len,jq2,ext_ext,pid_pid,sp_w1,sp_w2,sp_w3,sp_b4])
    refine ww.intro (fun q7 => ?_) (fun q7 => ?_)
    · (try simp only[↓jr,jw,seval,rb_ld,rb_len,jq2,ext_ext,pid_pid,sp_w1,sp_w2,sp_w3,sp_b4])
      refine JFIN.rb ?_
      rw [eV, e0, q7]; exact sbPa
    · (try simp only[↓jr,jw,seval,rb_ld,rb_len,jq2,ext_ext,pid_pid,sp_w1,sp_w2,sp_w3,sp_b4])
      refine JCs.ret (s_Sound b (pid j.next 6) (pid j.next 4) (rulesN b) _ (sayL b) _ (by rw [ext_next]; unfold pid; simp) (by rw [ext_next]; unfold pid; simp) (by rw [ext_get_new rfl]; rfl) (by rw [ext_get_new rfl]; rfl) (sayL_len b) (by omega) hso.1 hso.2) ?_
      rw [soundB_all]
      (try simp only[↓jr,jw,seval,rb_ld,rb_len,jq2,ext_ext,pid_pid,sp_w1,sp_w2,sp_w3,sp_b4])
      refine JFIN.rb ?_
      rw [eV, e0, q7, Bool.false_or]; exact sbPa
  · (try simp only[↓jr,jw,seval,rb_ld,rb_len,jq2,ext_ext,pid_pid,sp_w1,sp_w2,sp_w3,sp_b4])
    have e : lnkE b role fr to = askE b := by unfold lnkE; rw [if_neg h]
    exact fls e h
end Go.Proofs.YtkcbhebbjpiibaaDoor.Pg
