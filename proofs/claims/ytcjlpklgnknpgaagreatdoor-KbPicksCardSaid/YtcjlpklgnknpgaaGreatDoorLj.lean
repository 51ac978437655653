/-
  Knowledge bases: validity, as the program tells it.
-/
import Derived.Test.YtcjlpklgnknpgaaGreatDoorLg
set_option linter.unusedVariables false
set_option linter.unusedSimpArgs false
set_option maxRecDepth 20000
set_option maxHeartbeats 8000000
namespace Go.Proofs.YtcjlpklgnknpgaaGreatDoor.Pg
open Go
section
open Go
variable {m : GM}
structure Bas.ok (b : Bas) : Prop where
 nms : b.nms.ok
 short : b.nms.short
 li : b.incls.length < 1152921504606846976
 lr : b.roles.length < 1152921504606846976
 lf : b.facts.length < 1152921504606846976
 ll : b.links.length < 1152921504606846976
 incls : ∀ x ∈ b.incls, x.sub.ok ∧ x.sup.ok
 roles : ∀ x ∈ b.roles, R64 x.sub ∧ R64 x.sup
 facts : ∀ x ∈ b.facts, R64 x.ind ∧ x.con.ok
 links : ∀ x ∈ b.links, R64 x.role ∧ R64 x.fr ∧ R64 x.to
def Bas.few (b : Bas) : Prop := (∀ x ∈ b.incls, x.sub.nodes ≤ 4000000000 ∧ x.sup.nodes ≤ 4000000000) ∧ ∀ x ∈ b.facts, x.con.nodes ≤ 4000000000
def Bas.count (b : Bas) : Nat := b.incls.length + b.roles.length + b.facts.length + b.links.length
def rolOK (n : Nms) (r : Int) : Bool := decide (0 ≤ r) && decide (r < 2 * n.rs.length)
def indOK (n : Nms) (r : Int) : Bool := decide (0 ≤ r) && decide (r < n.is.length)
def lnkOK (n : Nms) (x : Lnk) : Bool := decide (0 ≤ x.role) && decide (x.role < n.rs.length) && indOK n x.fr && indOK n x.to
def conG (n : Nms) (c : Con) (y : Int) : Bool := decide ((c.nodes : Int) ≤ y) && decide (c.depth ≤ 20) && shaped n.cs.length n.rs.length c
def vI (n : Nms) : List Inc → Int → Option Int
 | [], y => some y
 | x :: l, y => if conG n x.sub y && conG n x.sup (y - x.sub.nodes) then vI n l (y - x.sub.nodes - x.sup.nodes) else none
def vF (n : Nms) : List Fac → Int → Option Int
 | [], y => some y
 | x :: l, y => if indOK n x.ind && conG n x.con y then vF n l (y - x.con.nodes) else none
def basV (b : Bas) : Bool := namesOK b.nms && decide (b.count ≤ 60) && (match vI b.nms b.incls 400 with
 | none => false
 | some y => b.roles.all (fun x => rolOK b.nms x.sub && rolOK b.nms x.sup) && (match vF b.nms b.facts y with
  | none => false
  | some _ => b.links.all (lnkOK b.nms)))
theorem vld_conG (n : Nms) (c : Con) (y : Int) : (vld n.cs.length n.rs.length c y 1).1 = conG n c y := by
 rw [(vld_eq n.cs.length n.rs.length c y 1).1]
 unfold conG
 congr 2
 exact decide_eq_decide.2 (by omega)
theorem vld_conG2 {n : Nms} {c : Con} {y : Int} (h : conG n c y = true) : (vld n.cs.length n.rs.length c y 1).2 = y - c.nodes := (vld_eq n.cs.length n.rs.length c y 1).2.1 (by rw [vld_conG]; exact h)
theorem conG_le {n : Nms} {c : Con} {y : Int} (h : conG n c y = true) : (c.nodes : Int) ≤ y := by
 unfold conG at h; simp only [Bool.and_eq_true, decide_eq_true_eq] at h; exact h.1.1
noncomputable def ir55 : IFn := ⟨18, [⟨2, none⟩], (.seq (.reg [oA 1 (.box 30 (.r 0)), oA 2 (.mov (kI 0))]) (.seq (.reg [oA 3 (.fadr 3 (.r 1)), oL 4 3 none, oT 5 4 (.lenl (.r 4)), oA 6 (.fadr 4 (.r 1)), oL 7 6 none, oT 8 7 (.lenl (.r 7)), oA 9 (.bin .add (.r 5) (.r 8)), oA 10 (.fadr 5 (.r 1)), oL 11 10 none, oT 12 11 (.lenl (.r 11)), oA 13 (.bin .add (.r 9) (.r 12)), oA 14 (.fadr 6 (.r 1)), oL 15 14 none, oT 16 15 (.lenl (.r 15)), oA 17 (.bin .add (.r 13) (.r 16)), oA 2 (kM 17)]) .ret))⟩
theorem c55 : cfunc Tryz.prog 55 = some ir55 := by kernel_rfl
theorem k55 : okIR (max 1 ir55.n) ir55.ir = true := by decide +kernel
theorem s_Count (b : Bas) (hb : b.ok) (j : JH) : JC Tryz.prog (GG m) 55 [.agg b.enc] j (RET (I64 b.count) j) := by
 obtain ⟨h1, h2, h3, h4⟩ := (⟨hb.li, hb.lr, hb.lf, hb.ll⟩ : _ ∧ _ ∧ _ ∧ _)
 refine JC.run hmix c55 (by exact k55) ?_
 (try simp only[↓jr,jw,seval,ir55])
 repeat' ((first | refine wq.intro (fun _ => ?_) (fun _ => ?_) | refine ww.intro (fun _ => ?_) (fun _ => ?_) | refine wc.intro (by first | omega | (unfold R64; omega) | trivial) ?_ | refine wr.in (by unfold R64; omega) ?_) <;> first | contradiction | (try simp only[↓jr,jw,seval]))
 refine JFIN.rb ?_
 simp only [Bas.count, Int.natCast_add]; exact SubB.v
noncomputable def ir73 : IFn := ⟨15, [⟨3, none⟩], (.seq (.reg [oA 3 (.mov (kB false))]) (.seq (.reg [oA 4 (kM 0), oA 5 (.bin .geq (.r 4) (kI 0)), oA 6 (kM 5), ⟨(some 7), (some ((6, true))), none, (kM 0)⟩, ⟨(some 8), (some ((6, true))), none, (.fadr 0 (.r 1))⟩, ⟨(some 9), (some ((6, true))), none, (.fadr 1 (.r 8))⟩, ⟨(some 10), (some ((6, true))), (some (.r 9)), (.load none (.r 9))⟩, ⟨(some 11), (some ((6, true))), (some (.r 10)), (.lenl (.r 10))⟩, ⟨(some 12), (some ((6, true))), none, (.bin .mul (kI 2) (.r 11))⟩, ⟨(some 13), (some ((6, true))), none, (.bin .lss (.r 7) (.r 12))⟩, oA 14 (.pick (.r 6) (.r 13) (kB false)), oA 3 (kM 14)]) .ret))⟩
theorem c73 : cfunc Tryz.prog 73 = some ir73 := by kernel_rfl
theorem k73 : okIR (max 2 ir73.n) ir73.ir = true := by decide +kernel
theorem s_Valid1 (b : Bas) (hb : b.ok) (r : Int) (o : Nat) (t : TypeId) (j : JH) (ho : o < j.next) (hg : j.get o = some (.cells t b.enc)) : JC Tryz.prog (GG m) 73 [I64 r, .ptr o 0] j (RET (BOO (rolOK b.nms r)) j) := by
 obtain ⟨h1, h2, h3⟩ := hb.nms
 refine JC.run hmix c73 (by exact k73) ?_
 (try simp only[↓jr,jw,seval,ext_get_old,ho,hg,ir73])
 repeat' ((first | refine wq.intro (fun _ => ?_) (fun _ => ?_) | refine ww.intro (fun _ => ?_) (fun _ => ?_) | refine wc.intro (by first | omega | (unfold R64; omega) | trivial) ?_ | refine wr.in (by unfold R64; omega) ?_) <;> first | contradiction | (try simp only[↓jr,jw,seval,ext_get_old,ho,hg]))
 all_goals
  refine JFIN.rb ?_
  unfold rolOK
  simp only [*, decide_true, Bool.true_and, decide_false, Bool.false_and]
  exact SubB.v
noncomputable def ir74 : IFn := ⟨14, [⟨3, none⟩], (.seq (.reg [oA 3 (.mov (kB false))]) (.seq (.reg [oA 4 (kM 0), oA 5 (.bin .geq (.r 4) (kI 0)), oA 6 (kM 5), ⟨(some 7), (some ((6, true))), none, (kM 0)⟩, ⟨(some 8), (some ((6, true))), none, (.fadr 0 (.r 1))⟩, ⟨(some 9), (some ((6, true))), none, (.fadr 2 (.r 8))⟩, ⟨(some 10), (some ((6, true))), (some (.r 9)), (.load none (.r 9))⟩, ⟨(some 11), (some ((6, true))), (some (.r 10)), (.lenl (.r 10))⟩, ⟨(some 12), (some ((6, true))), none, (.bin .lss (.r 7) (.r 11))⟩, oA 13 (.pick (.r 6) (.r 12) (kB false)), oA 3 (kM 13)]) .ret))⟩
theorem c74 : cfunc Tryz.prog 74 = some ir74 := by kernel_rfl
theorem k74 : okIR (max 2 ir74.n) ir74.ir = true := by decide +kernel
theorem s_Valid2 (b : Bas) (hb : b.ok) (r : Int) (o : Nat) (t : TypeId) (j : JH) (ho : o < j.next) (hg : j.get o = some (.cells t b.enc)) : JC Tryz.prog (GG m) 74 [I64 r, .ptr o 0] j (RET (BOO (indOK b.nms r)) j) := by
 obtain ⟨h1, h2, h3⟩ := hb.nms
 refine JC.run hmix c74 (by exact k74) ?_
 (try simp only[↓jr,jw,seval,ext_get_old,ho,hg,ir74])
 repeat' ((first | refine wq.intro (fun _ => ?_) (fun _ => ?_) | refine ww.intro (fun _ => ?_) (fun _ => ?_) | refine wc.intro (by first | omega | (unfold R64; omega) | trivial) ?_ | refine wr.in (by unfold R64; omega) ?_) <;> first | contradiction | (try simp only[↓jr,jw,seval,ext_get_old,ho,hg]))
 all_goals
  refine JFIN.rb ?_
  unfold indOK
  simp only [*, decide_true, Bool.true_and, decide_false, Bool.false_and]
  exact SubB.v
theorem hb93 : hasBody Tryz.prog 73 = true := by decide +kernel
theorem hb94 : hasBody Tryz.prog 74 = true := by decide +kernel
noncomputable def ir35 : IFn := ⟨130, [⟨2, none⟩], (.seq (.reg [oA 1 (.box 30 (.r 0)), oA 2 (.mov (kB false))]) (.seq (.seq (.reg [oA 14 (.fadr 0 (.r 1)), oL 15 14 (some 3), oT 16 15 (.call 71 [.r 15]), oA 17 (.not (.r 16)), oA 18 (kM 17), ⟨(some 19), (some ((18, false))), (some (.r 1)), (.load (some 7) (.r 1))⟩, ⟨(some 20), (some ((18, false))), (some (.r 19)), (.call 55 [.r 19])⟩, ⟨(some 21), (some ((18, false))), none, (.bin .gtr (.r 20) (kI 60))⟩, oA 22 (.pick (.r 18) (kB true) (.r 21))]) (.cond (.r 22) (.seq (.reg [oA 2 (.mov (kB false))]) .ret) .skip)) (.seq (.reg [oA 3 (.alloc 3 [.v (.int .i64 0)]), oN (.store 1 (.r 3) (kI 400))]) (.seq (.seq (.reg [oA 23 (.fadr 3 (.r 1)), oL 24 23 none, oT 25 24 (.lenl (.r 24)), oA 26 (.mov (kI 0))]) (.block 0 (.loop (.seq (.reg [oA 27 (.bin .lss (.r 26) (.r 25))]) (.seq (.cond (.r 27) .skip (.exit 0)) (.seq (.block 1 (.seq (.reg [oA 28 (.iasl 6 (.r 24) (.r 26)), oL 29 28 (some 6), oA 5 (.alloc 113 [.v (.int .i64 0), .v (.int .i64 0), .sl .nil 0 [], .v (.int .i64 0), .v (.int .i64 0), .sl .nil 0 []]), oN (.store 6 (.r 5) (.r 29))]) (.seq (.reg [oA 30 (.fadr 0 (.r 1)), oL 31 30 (some 3), oA 32 (.fadr 0 (.r 5)), oL 33 32 (some 3), oA 34 (.call 72 [.r 31, .r 33, .r 3]), oA 35 (.not (.r 34)), oA 36 (kM 35), ⟨(some 37), (some ((36, false))), none, (.fadr 0 (.r 1))⟩, ⟨(some 38), (some ((36, false))), (some (.r 37)), (.load (some 3) (.r 37))⟩, ⟨(some 39), (some ((36, false))), none, (.fadr 3 (.r 5))⟩, ⟨(some 40), (some ((36, false))), (some (.r 39)), (.load (some 3) (.r 39))⟩, ⟨(some 41), (some ((36, false))), none, (.call 72 [.r 38, .r 40, .r 3])⟩, ⟨(some 42), (some ((36, false))), none, (.not (.r 41))⟩, oA 43 (.pick (.r 36) (kB true) (.r 42))]) (.cond (.r 43) (.seq (.reg [oA 2 (.mov (kB false))]) .ret) .skip)))) (.reg [oA 44 (.bin .add (.r 26) (kI 1)), oA 26 (kM 44)]))))))) (.seq (.reg [oA 45 (.mkf (.func 73) [] [.r 1]), oA 6 (kM 45)]) (.seq (.reg [oA 46 (.mkf (.func 74) [] [.r 1]), oA 7 (kM 46)]) (.seq (.seq (.reg [oA 47 (.fadr 4 (.r 1)), oL 48 47 none, oT 49 48 (.lenl (.r 48)), oA 50 (.mov (kI 0))]) (.block 2 (.loop (.seq (.reg [oA 51 (.bin .lss (.r 50) (.r 49))]) (.seq (.cond (.r 51) .skip (.exit 2)) (.seq (.block 3 (.seq (.reg [oA 52 (.iasl 2 (.r 48) (.r 50)), oL 53 52 (some 2), oA 9 (.alloc 116 [.v (.int .i64 0), .v (.int .i64 0)]), oN (.store 2 (.r 9) (.r 53))]) (.seq (.reg [oA 54 (kM 6), oA 55 (.fadr 0 (.r 9)), oL 56 55 none, oT 57 56 (.callv (.r 54) [.r 56]), oA 58 (.not (.r 57)), oA 59 (kM 58), ⟨(some 60), (some ((59, false))), none, (kM 6)⟩, ⟨(some 61), (some ((59, false))), none, (.fadr 1 (.r 9))⟩, ⟨(some 62), (some ((59, false))), (some (.r 61)), (.load none (.r 61))⟩, ⟨(some 63), (some ((59, false))), (some (.r 62)), (.callv (.r 60) [.r 62])⟩, ⟨(some 64), (some ((59, false))), none, (.not (.r 63))⟩, oA 65 (.pick (.r 59) (kB true) (.r 64))]) (.cond (.r 65) (.seq (.reg [oA 2 (.mov (kB false))]) .ret) .skip)))) (.reg [oA 66 (.bin .add (.r 50) (kI 1)), oA 50 (kM 66)]))))))) (.seq (.seq (.reg [oA 67 (.fadr 5 (.r 1)), oL 68 67 none, oT 69 68 (.lenl (.r 68)), oA 70 (.mov (kI 0))]) (.block 4 (.loop (.seq (.reg [oA 71 (.bin .lss (.r 70) (.r 69))]) (.seq (.cond (.r 71) .skip (.exit 4)) (.seq (.block 5 (.seq (.reg [oA 72 (.iasl 4 (.r 68) (.r 70)), oL 73 72 (some 4), oA 11 (.alloc 118 [.v (.int .i64 0), .v (.int .i64 0), .v (.int .i64 0), .sl .nil 0 []]), oN (.store 4 (.r 11) (.r 73))]) (.seq (.reg [oA 74 (kM 7), oA 75 (.fadr 0 (.r 11)), oL 76 75 none, oT 77 76 (.callv (.r 74) [.r 76]), oA 78 (.not (.r 77)), oA 79 (kM 78), ⟨(some 80), (some ((79, false))), none, (.fadr 0 (.r 1))⟩, ⟨(some 81), (some ((79, false))), (some (.r 80)), (.load (some 3) (.r 80))⟩, ⟨(some 82), (some ((79, false))), none, (.fadr 1 (.r 11))⟩, ⟨(some 83), (some ((79, false))), (some (.r 82)), (.load (some 3) (.r 82))⟩, ⟨(some 84), (some ((79, false))), none, (.call 72 [.r 81, .r 83, .r 3])⟩, ⟨(some 85), (some ((79, false))), none, (.not (.r 84))⟩, oA 86 (.pick (.r 79) (kB true) (.r 85))]) (.cond (.r 86) (.seq (.reg [oA 2 (.mov (kB false))]) .ret) .skip)))) (.reg [oA 87 (.bin .add (.r 70) (kI 1)), oA 70 (kM 87)]))))))) (.seq (.seq (.reg [oA 88 (.fadr 6 (.r 1)), oL 89 88 none, oT 90 89 (.lenl (.r 89)), oA 91 (.mov (kI 0))]) (.block 6 (.loop (.seq (.reg [oA 92 (.bin .lss (.r 91) (.r 90))]) (.seq (.cond (.r 92) .skip (.exit 6)) (.seq (.block 7 (.seq (.reg [oA 93 (.iasl 3 (.r 89) (.r 91)), oL 94 93 (some 3), oA 13 (.alloc 120 [.v (.int .i64 0), .v (.int .i64 0), .v (.int .i64 0)]), oN (.store 3 (.r 13) (.r 94))]) (.seq (.reg [oA 95 (.fadr 0 (.r 13)), oL 96 95 none, oA 97 (.bin .lss (.r 96) (kI 0)), oA 98 (kM 97), ⟨(some 99), (some ((98, false))), none, (kM 6)⟩, ⟨(some 100), (some ((98, false))), none, (.fadr 0 (.r 13))⟩, ⟨(some 101), (some ((98, false))), (some (.r 100)), (.load none (.r 100))⟩, ⟨(some 102), (some ((98, false))), none, (.bin .mul (kI 2) (.r 101))⟩, ⟨(some 103), (some ((98, false))), (some (.r 102)), (.callv (.r 99) [.r 102])⟩, ⟨(some 104), (some ((98, false))), none, (.not (.r 103))⟩, oA 105 (.pick (.r 98) (kB true) (.r 104)), oA 106 (kM 105), ⟨(some 107), (some ((106, false))), none, (.fadr 0 (.r 13))⟩, ⟨(some 108), (some ((106, false))), (some (.r 107)), (.load none (.r 107))⟩, ⟨(some 109), (some ((106, false))), none, (.fadr 0 (.r 1))⟩, ⟨(some 110), (some ((106, false))), none, (.fadr 1 (.r 109))⟩, ⟨(some 111), (some ((106, false))), (some (.r 110)), (.load none (.r 110))⟩, ⟨(some 112), (some ((106, false))), (some (.r 111)), (.lenl (.r 111))⟩, ⟨(some 113), (some ((106, false))), none, (.bin .geq (.r 108) (.r 112))⟩, oA 114 (.pick (.r 106) (kB true) (.r 113)), oA 115 (kM 114), ⟨(some 116), (some ((115, false))), none, (kM 7)⟩, ⟨(some 117), (some ((115, false))), none, (.fadr 1 (.r 13))⟩, ⟨(some 118), (some ((115, false))), (some (.r 117)), (.load none (.r 117))⟩, ⟨(some 119), (some ((115, false))), (some (.r 118)), (.callv (.r 116) [.r 118])⟩, ⟨(some 120), (some ((115, false))), none, (.not (.r 119))⟩, oA 121 (.pick (.r 115) (kB true) (.r 120)), oA 122 (kM 121), ⟨(some 123), (some ((122, false))), none, (kM 7)⟩, ⟨(some 124), (some ((122, false))), none, (.fadr 2 (.r 13))⟩, ⟨(some 125), (some ((122, false))), (some (.r 124)), (.load none (.r 124))⟩, ⟨(some 126), (some ((122, false))), (some (.r 125)), (.callv (.r 123) [.r 125])⟩, ⟨(some 127), (some ((122, false))), none, (.not (.r 126))⟩, oA 128 (.pick (.r 122) (kB true) (.r 127))]) (.cond (.r 128) (.seq (.reg [oA 2 (.mov (kB false))]) .ret) .skip)))) (.reg [oA 129 (.bin .add (.r 91) (kI 1)), oA 91 (kM 129)]))))))) (.seq (.reg [oA 2 (.mov (kB true))]) .ret))))))))))⟩
theorem c35 : cfunc Tryz.prog 35 = some ir35 := by kernel_rfl
theorem k35 : okIR (max 1 ir35.n) ir35.ir = true := by decide +kernel
theorem s_kbValid (b : Bas) (hb : b.ok) (hf : b.few) (j : JH) : JC Tryz.prog (GG m) 35 [.agg b.enc] j (RET (BOO (basV b)) j) := by
 have fls : ∀ {l : List AObj}, basV b = false → @JFIN (ext j []) (ext j l) (.v (.bool false)) ⟨fun y j' => RET (BOO (basV b)) j (.ret y) j'⟩ := by
  intro l h
  refine JFIN.rb ?_
  rw [h]; exact SubB.v
 obtain ⟨n1, n2, n3⟩ := hb.nms
 have l1 := hb.li
 have l2 := hb.lr
 have l3 := hb.lf
 have l4 := hb.ll
 refine JC.run hmix c35 (by exact k35) ?_
 (try simp only[↓jr,jw,seval,ir35])
 refine JCs.ret (s_ValidNames b.nms hb.nms hb.short _) ?_
 (try simp only[↓jr,jw,seval])
 refine ww.intro (fun g1 => ?_) (fun g1 => by (try simp only[↓jr,jw,seval]); exact fls (by unfold basV; rw [g1]; rfl))
 (try simp only[↓jr,jw,seval])
 refine JCs.ret (s_Count b hb _) ?_
 (try simp only[↓jr,jw,seval])
 refine wq.intro (fun g2 => by (try simp only[↓jr,jw,seval]); exact fls (by unfold basV; rw [decide_eq_false (by omega), Bool.and_false, Bool.false_and])) (fun g2 => ?_)
 (try simp only[↓jr,jw,seval])
 have hB : basV b = (match vI b.nms b.incls 400 with
   | none => false
   | some y => b.roles.all (fun x => rolOK b.nms x.sub && rolOK b.nms x.sup) && (match vF b.nms b.facts y with
    | none => false
    | some _ => b.links.all (lnkOK b.nms))) := by
  unfold basV; rw [g1, decide_eq_true (by omega)]; rfl
 refine JLOOP.of (σ := Nat × Int) (fun s => s.1 ≤ (b.incls).length ∧ 0 ≤ s.2 ∧ s.2 ≤ 400 ∧ vI b.nms (b.incls.drop s.1) s.2 = vI b.nms b.incls 400) (fun s => (b.incls).length - s.1) (fun s => [(26, I64 s.1), (25, I64 b.incls.length), (24, .sl .none b.incls.length (encs Inc.enc b.incls)), (1, .ptr (pid j.next 0) 0), (3, .ptr (pid j.next 1) 0)]) (fun s => ext j [.cells 30 b.enc, .cells 3 [I64 s.2]]) (0, 400) ⟨Nat.zero_le _, ?_⟩ ?_ (JDropH.refl _) ?_
 ·exact ⟨by decide, by decide, rfl⟩
 ·((try simp only[↓jr,jw,seval,DL]) <;> exact sbq)
 rintro ⟨k, y⟩ ⟨hk, hI⟩
 try simp only at hk hI
 (try simp only[↓jr,jw,seval])
 refine wq.intro (fun h1 => ?_) (fun h1 => ?_)
 ·obtain ⟨hy0, hy1, hI⟩ := hI
  have hlt : k < (b.incls).length := by omega
  obtain ⟨x, r, hd⟩ : ∃ c_ l_, List.drop k (b.incls) = c_ :: l_ := ⟨_, _, List.drop_eq_getElem_cons hlt⟩
  have hd1 : List.drop (k + 1) (b.incls) = r := by rw [← List.drop_drop, hd]; rfl
  have hmem : x ∈ b.incls := List.mem_of_mem_drop (hd ▸ List.mem_cons_self)
  (try simp only[↓jr,jw,seval,hd])
  refine wc.intro (by omega) ?_
  (try simp only[↓jr,jw,seval,hd])
  rw [hd] at hI
  simp only [vI] at hI
  obtain ⟨k1, k2⟩ := hb.incls x hmem
  obtain ⟨f1, f2⟩ := hf.1 x hmem
  refine JCs.ret (s_Valid b.nms hb.nms 3 x.sub (pid j.next 1) y (ext j [.cells 30 b.enc, .cells 3 [I64 y], .cells 113 x.enc]) k1 (by rw [ext_next]; unfold pid; simp) (by (try simp only[↓jr,jw,seval])) (by omega) (by omega)) ?_
  (try simp only[↓jr,jw,seval])
  rw [vld_conG]
  refine ww.intro (fun c1 => ?_) (fun c1 => by (try simp only[↓jr,jw,seval]); exact fls (by rw [hB, ← hI, c1]; rfl))
  (try simp only[↓jr,jw,seval])
  rw [vld_conG2 c1]
  have c1' := conG_le c1
  refine JCs.ret (s_Valid b.nms hb.nms 3 x.sup (pid j.next 1) (y - x.sub.nodes) (ext j [.cells 30 b.enc, .cells 3 [I64 (y - x.sub.nodes)], .cells 113 x.enc]) k2 (by rw [ext_next]; unfold pid; simp) (by (try simp only[↓jr,jw,seval])) (by omega) (by omega)) ?_
  (try simp only[↓jr,jw,seval])
  rw [vld_conG]
  refine ww.intro (fun c2 => ?_) (fun c2 => by (try simp only[↓jr,jw,seval]); exact fls (by rw [hB, ← hI, c1, c2]; rfl))
  (try simp only[↓jr,jw,seval])
  rw [vld_conG2 c2]
  have c2' := conG_le c2
  rw [c1, c2] at hI
  refine wc.intro (R64_add hlt (by omega)) ?_; (try simp only[↓jr,jw,seval])
  refine JNEXT.of (k + 1, y - x.sub.nodes - x.sup.nodes) ⟨by simp only; omega, by simp only; omega, by simp only; omega, by simp only [hd1]; exact hI⟩ (by simp only; omega) ?_ (JDropH.next0 (TokExt.refl _) ⟨.inl ⟨rfl, rfl⟩, .inr (OSub.pure rfl), trivial⟩)
  ((try simp only[↓jr,jw,seval,DL]) <;> exact sbq)
 obtain ⟨hy0, hy1, hI⟩ := hI
 (try simp only[↓jr,jw,seval])
 rw [List.drop_eq_nil_of_le (by omega)] at hI
 simp only [vI] at hI
 rw [← hI] at hB
 simp only at hB
 clear hI h1 hk
 refine JLOOP.of (σ := Nat) (fun s => s ≤ (b.roles).length ∧ ((b.roles.drop s).all (fun x => rolOK b.nms x.sub && rolOK b.nms x.sup)) = b.roles.all (fun x => rolOK b.nms x.sub && rolOK b.nms x.sup)) (fun s => (b.roles).length - s) (fun s => [(50, I64 s), (49, I64 b.roles.length), (48, .sl .none b.roles.length (encs RIn.enc b.roles)), (1, .ptr (pid j.next 0) 0), (3, .ptr (pid j.next 1) 0), (6, .fn (.func 73) [] [.ptr (pid j.next 0) 0]), (7, .fn (.func 74) [] [.ptr (pid j.next 0) 0])]) (fun s => ext j [.cells 30 b.enc, .cells 3 [I64 y]]) 0 ⟨Nat.zero_le _, ?_⟩ ?_ (JDropH.refl _) ?_
 ·rfl
 ·((try simp only[↓jr,jw,seval,DL]) <;> exact sbq)
 rintro k ⟨hk, hI⟩
 try simp only at hk hI
 (try simp only[↓jr,jw,seval])
 refine wq.intro (fun h1 => ?_) (fun h1 => ?_)
 ·have hlt : k < (b.roles).length := by omega
  obtain ⟨x, r, hd⟩ : ∃ c_ l_, List.drop k (b.roles) = c_ :: l_ := ⟨_, _, List.drop_eq_getElem_cons hlt⟩
  have hd1 : List.drop (k + 1) (b.roles) = r := by rw [← List.drop_drop, hd]; rfl
  have hmem : x ∈ b.roles := List.mem_of_mem_drop (hd ▸ List.mem_cons_self)
  (try simp only[↓jr,jw,seval,hd])
  refine wc.intro (by omega) ?_
  (try simp only[↓jr,jw,seval,hd])
  rw [hd] at hI
  rw [List.all_cons] at hI
  refine wc.intro hb93 ?_
  (try simp only[↓jr,jw,seval])
  refine JCs.ret (s_Valid1 b hb x.sub (pid j.next 0) 30 (ext j [.cells 30 b.enc, .cells 3 [I64 y], .cells 116 x.enc]) (by rw [ext_next]; unfold pid; simp) (by (try simp only[↓jr,jw,seval]))) ?_
  (try simp only[↓jr,jw,seval])
  refine ww.intro (fun c1 => ?_) (fun c1 => by (try simp only[↓jr,jw,seval]); exact fls (by rw [hB, ← hI, c1]; rfl))
  (try simp only[↓jr,jw,seval])
  refine wc.intro hb93 ?_
  (try simp only[↓jr,jw,seval])
  refine JCs.ret (s_Valid1 b hb x.sup (pid j.next 0) 30 (ext j [.cells 30 b.enc, .cells 3 [I64 y], .cells 116 x.enc]) (by rw [ext_next]; unfold pid; simp) (by (try simp only[↓jr,jw,seval]))) ?_
  (try simp only[↓jr,jw,seval])
  refine ww.intro (fun c2 => ?_) (fun c2 => by (try simp only[↓jr,jw,seval]); exact fls (by rw [hB, ← hI, c1, c2]; rfl))
  (try simp only[↓jr,jw,seval])
  rw [c1, c2] at hI
  refine wc.intro (R64_add hlt (by omega)) ?_; (try simp only[↓jr,jw,seval])
  refine JNEXT.of (k + 1) ⟨by omega, by rw [hd1]; exact hI⟩ (by omega) ?_ JDropH.nx
  ((try simp only[↓jr,jw,seval,DL]) <;> exact sbq)
 (try simp only[↓jr,jw,seval])
 rw [List.drop_eq_nil_of_le (by omega), List.all_nil] at hI
 rw [← hI, Bool.true_and] at hB
 clear hI h1 hk
 refine JLOOP.of (σ := Nat × Int) (fun s => s.1 ≤ (b.facts).length ∧ 0 ≤ s.2 ∧ s.2 ≤ 400 ∧ vF b.nms (b.facts.drop s.1) s.2 = vF b.nms b.facts y) (fun s => (b.facts).length - s.1) (fun s => [(70, I64 s.1), (69, I64 b.facts.length), (68, .sl .none b.facts.length (encs Fac.enc b.facts)), (1, .ptr (pid j.next 0) 0), (3, .ptr (pid j.next 1) 0), (6, .fn (.func 73) [] [.ptr (pid j.next 0) 0]), (7, .fn (.func 74) [] [.ptr (pid j.next 0) 0])]) (fun s => ext j [.cells 30 b.enc, .cells 3 [I64 s.2]]) (0, y) ⟨Nat.zero_le _, ?_⟩ ?_ (JDropH.refl _) ?_
 ·exact ⟨hy0, hy1, rfl⟩
 ·((try simp only[↓jr,jw,seval,DL]) <;> exact sbq)
 rintro ⟨k, z⟩ ⟨hk, hI⟩
 try simp only at hk hI
 (try simp only[↓jr,jw,seval])
 refine wq.intro (fun h1 => ?_) (fun h1 => ?_)
 ·obtain ⟨hz0, hz1, hI⟩ := hI
  have hlt : k < (b.facts).length := by omega
  obtain ⟨x, r, hd⟩ : ∃ c_ l_, List.drop k (b.facts) = c_ :: l_ := ⟨_, _, List.drop_eq_getElem_cons hlt⟩
  have hd1 : List.drop (k + 1) (b.facts) = r := by rw [← List.drop_drop, hd]; rfl
  have hmem : x ∈ b.facts := List.mem_of_mem_drop (hd ▸ List.mem_cons_self)
  (try simp only[↓jr,jw,seval,hd])
  refine wc.intro (by omega) ?_
  (try simp only[↓jr,jw,seval,hd])
  rw [hd] at hI
  simp only [vF] at hI
  obtain ⟨k1, k2⟩ := hb.facts x hmem
  have f1 := hf.2 x hmem
  refine wc.intro hb94 ?_
  (try simp only[↓jr,jw,seval])
  refine JCs.ret (s_Valid2 b hb x.ind (pid j.next 0) 30 (ext j [.cells 30 b.enc, .cells 3 [I64 z], .cells 118 x.enc]) (by rw [ext_next]; unfold pid; simp) (by (try simp only[↓jr,jw,seval]))) ?_
  (try simp only[↓jr,jw,seval])
  refine ww.intro (fun c1 => ?_) (fun c1 => by (try simp only[↓jr,jw,seval]); exact fls (by rw [hB, ← hI, c1]; rfl))
  (try simp only[↓jr,jw,seval])
  refine JCs.ret (s_Valid b.nms hb.nms 3 x.con (pid j.next 1) z (ext j [.cells 30 b.enc, .cells 3 [I64 z], .cells 118 x.enc]) k2 (by rw [ext_next]; unfold pid; simp) (by (try simp only[↓jr,jw,seval])) (by omega) (by omega)) ?_
  (try simp only[↓jr,jw,seval])
  rw [vld_conG]
  refine ww.intro (fun c2 => ?_) (fun c2 => by (try simp only[↓jr,jw,seval]); exact fls (by rw [hB, ← hI, c1, c2]; rfl))
  (try simp only[↓jr,jw,seval])
  rw [vld_conG2 c2]
  have c2' := conG_le c2
  rw [c1, c2] at hI
  refine wc.intro (R64_add hlt (by omega)) ?_; (try simp only[↓jr,jw,seval])
  refine JNEXT.of (k + 1, z - x.con.nodes) ⟨by simp only; omega, by simp only; omega, by simp only; omega, by simp only [hd1]; exact hI⟩ (by simp only; omega) ?_ (JDropH.next0 (TokExt.refl _) ⟨.inl ⟨rfl, rfl⟩, .inr (OSub.pure rfl), trivial⟩)
  ((try simp only[↓jr,jw,seval,DL]) <;> exact sbq)
 obtain ⟨hz0, hz1, hI⟩ := hI
 (try simp only[↓jr,jw,seval])
 rw [List.drop_eq_nil_of_le (by omega)] at hI
 simp only [vF] at hI
 rw [← hI] at hB
 simp only at hB
 clear hI h1 hk
 refine JLOOP.of (σ := Nat) (fun s => s ≤ (b.links).length ∧ (b.links.drop s).all (lnkOK b.nms) = b.links.all (lnkOK b.nms)) (fun s => (b.links).length - s) (fun s => [(91, I64 s), (90, I64 b.links.length), (89, .sl .none b.links.length (encs Lnk.enc b.links)), (1, .ptr (pid j.next 0) 0), (3, .ptr (pid j.next 1) 0), (6, .fn (.func 73) [] [.ptr (pid j.next 0) 0]), (7, .fn (.func 74) [] [.ptr (pid j.next 0) 0])]) (fun s => ext j [.cells 30 b.enc, .cells 3 [I64 z]]) 0 ⟨Nat.zero_le _, ?_⟩ ?_ (JDropH.refl _) ?_
 ·rfl
 ·((try simp only[↓jr,jw,seval,DL]) <;> exact sbq)
 rintro k ⟨hk, hI⟩
 try simp only at hk hI
 (try simp only[↓jr,jw,seval])
 refine wq.intro (fun h1 => ?_) (fun h1 => ?_)
 ·have hlt : k < (b.links).length := by omega
  obtain ⟨x, r, hd⟩ : ∃ c_ l_, List.drop k (b.links) = c_ :: l_ := ⟨_, _, List.drop_eq_getElem_cons hlt⟩
  have hd1 : List.drop (k + 1) (b.links) = r := by rw [← List.drop_drop, hd]; rfl
  have hmem : x ∈ b.links := List.mem_of_mem_drop (hd ▸ List.mem_cons_self)
  (try simp only[↓jr,jw,seval,hd])
  refine wc.intro (by omega) ?_
  (try simp only[↓jr,jw,seval,hd])
  rw [hd] at hI
  rw [List.all_cons] at hI
  obtain ⟨k1, k2, k3⟩ := hb.links x hmem
  have bad : lnkOK b.nms x = false → basV b = false := fun q => by rw [hB, ← hI, q]; rfl
  have bad1 : ¬ (0 ≤ x.role ∧ x.role < b.nms.rs.length) → basV b = false := by
   intro q
   refine bad ?_
   rw [Bool.eq_false_iff]
   intro h
   unfold lnkOK at h
   simp only [Bool.and_eq_true, decide_eq_true_eq] at h
   exact q ⟨h.1.1.1, h.1.1.2⟩
  refine wq.intro (fun c0 => by (try simp only[↓jr,jw,seval]); exact fls (bad1 (by omega))) (fun c0 => ?_)
  (try simp only[↓jr,jw,seval])
  have tl : 0 ≤ x.role ∧ x.role < b.nms.rs.length → (indOK b.nms x.fr && indOK b.nms x.to) = lnkOK b.nms x := by
   intro q; unfold lnkOK; rw [decide_eq_true q.1, decide_eq_true q.2]; rfl
  by_cases hbig : x.role ≤ 4611686018427387903
  ·refine wr.in (by unfold R64; omega) ?_
   (try simp only[↓jr,jw,seval])
   refine wc.intro hb93 ?_
   (try simp only[↓jr,jw,seval])
   refine JCs.ret (s_Valid1 b hb (2 * x.role) (pid j.next 0) 30 (ext j [.cells 30 b.enc, .cells 3 [I64 z], .cells 120 x.enc]) (by rw [ext_next]; unfold pid; simp) (by (try simp only[↓jr,jw,seval]))) ?_
   (try simp only[↓jr,jw,seval])
   refine ww.intro (fun c1 => ?_) (fun c1 => by (try simp only[↓jr,jw,seval]); exact fls (bad1 (by unfold rolOK at c1; rintro ⟨q1, q2⟩; rw [decide_eq_true (by omega), decide_eq_true (by omega)] at c1; cases c1)))
   (try simp only[↓jr,jw,seval])
   refine wq.intro (fun c2 => by (try simp only[↓jr,jw,seval]); exact fls (bad1 (by omega))) (fun c2 => ?_)
   (try simp only[↓jr,jw,seval])
   refine wc.intro hb94 ?_
   (try simp only[↓jr,jw,seval])
   refine JCs.ret (s_Valid2 b hb x.fr (pid j.next 0) 30 (ext j [.cells 30 b.enc, .cells 3 [I64 z], .cells 120 x.enc]) (by rw [ext_next]; unfold pid; simp) (by (try simp only[↓jr,jw,seval]))) ?_
   (try simp only[↓jr,jw,seval])
   have tl' := tl ⟨by omega, by omega⟩
   refine ww.intro (fun c3 => ?_) (fun c3 => by (try simp only[↓jr,jw,seval]); exact fls (bad (by rw [← tl', c3]; rfl)))
   (try simp only[↓jr,jw,seval])
   refine wc.intro hb94 ?_
   (try simp only[↓jr,jw,seval])
   refine JCs.ret (s_Valid2 b hb x.to (pid j.next 0) 30 (ext j [.cells 30 b.enc, .cells 3 [I64 z], .cells 120 x.enc]) (by rw [ext_next]; unfold pid; simp) (by (try simp only[↓jr,jw,seval]))) ?_
   (try simp only[↓jr,jw,seval])
   refine ww.intro (fun c4 => ?_) (fun c4 => by (try simp only[↓jr,jw,seval]); exact fls (bad (by rw [← tl', c3, c4]; rfl)))
   (try simp only[↓jr,jw,seval])
   rw [← tl', c3, c4] at hI
   refine wc.intro (R64_add hlt (by omega)) ?_; (try simp only[↓jr,jw,seval])
   refine JNEXT.of (k + 1) ⟨by omega, by rw [hd1]; exact hI⟩ (by omega) ?_ JDropH.nx
   ((try simp only[↓jr,jw,seval,DL]) <;> exact sbq)
  ·refine wr.any ?_
   (try simp only[↓jr,jw,seval])
   refine wc.intro hb93 ?_
   (try simp only[↓jr,jw,seval])
   refine JCs.ret (s_Valid1 b hb _ (pid j.next 0) 30 (ext j [.cells 30 b.enc, .cells 3 [I64 z], .cells 120 x.enc]) (by rw [ext_next]; unfold pid; simp) (by (try simp only[↓jr,jw,seval]))) ?_
   (try simp only[↓jr,jw,seval])
   refine ww.intro (fun c1 => ?_) (fun c1 => by (try simp only[↓jr,jw,seval]); exact fls (bad1 (by omega)))
   (try simp only[↓jr,jw,seval])
   refine wq.intro (fun c2 => by (try simp only[↓jr,jw,seval]); exact fls (bad1 (by omega))) (fun c2 => ?_)
   exact absurd c2 (by omega)
 (try simp only[↓jr,jw,seval])
 rw [List.drop_eq_nil_of_le (by omega), List.all_nil] at hI
 refine JFIN.rb ?_
 rw [hB, ← hI]; exact SubB.v
end
section
open Go
variable {m : GM}
def consI : List Inc → List Con
 | [] => []
 | x :: l => x.sub :: x.sup :: consI l
def consF : List Fac → List Con
 | [] => []
 | x :: l => x.con :: consF l
def Bas.cons (b : Bas) : List Con := consI b.incls ++ consF b.facts
def sumN : List Con → Nat
 | [] => 0
 | c :: l => c.nodes + sumN l
theorem sumN_append : ∀ l r : List Con, sumN (l ++ r) = sumN l + sumN r
 | [], r => by simp [sumN]
 | c :: l, r => by simp only [List.cons_append, sumN, sumN_append l r]; omega
theorem consI_len : ∀ l : List Inc, (consI l).length = 2 * l.length
 | [] => rfl
 | x :: l => by simp only [consI, List.length_cons, consI_len l]; omega
theorem consF_len : ∀ l : List Fac, (consF l).length = l.length
 | [] => rfl
 | x :: l => by simp only [consF, List.length_cons, consF_len l]
theorem consI_mem : ∀ {l : List Inc} {c : Con}, c ∈ consI l → ∃ x ∈ l, c = x.sub ∨ c = x.sup
 | x :: l, c, h => by
  simp only [consI, List.mem_cons] at h
  rcases h with rfl | rfl | h
  ·exact ⟨x, List.mem_cons_self, .inl rfl⟩
  ·exact ⟨x, List.mem_cons_self, .inr rfl⟩
  ·obtain ⟨y, hy, e⟩ := consI_mem h; exact ⟨y, List.mem_cons_of_mem _ hy, e⟩
theorem consF_mem : ∀ {l : List Fac} {c : Con}, c ∈ consF l → ∃ x ∈ l, c = x.con
 | x :: l, c, h => by
  simp only [consF, List.mem_cons] at h
  rcases h with rfl | h
  ·exact ⟨x, List.mem_cons_self, rfl⟩
  ·obtain ⟨y, hy, e⟩ := consF_mem h; exact ⟨y, List.mem_cons_of_mem _ hy, e⟩
theorem Bas.ok.con {b : Bas} (hb : b.ok) {c : Con} (h : c ∈ b.cons) : c.ok := by
 rcases List.mem_append.1 h with h | h
 ·obtain ⟨x, hx, e⟩ := consI_mem h
  rcases e with rfl | rfl
  ·exact (hb.incls x hx).1
  ·exact (hb.incls x hx).2
 ·obtain ⟨x, hx, rfl⟩ := consF_mem h; exact (hb.facts x hx).2
theorem sumN_mem : ∀ {l : List Con} {c : Con}, c ∈ l → c.nodes ≤ sumN l
 | d :: l, c, h => by
  simp only [sumN]
  rcases List.mem_cons.1 h with rfl | h
  ·omega
  ·have := sumN_mem h; omega
theorem mem_consI : ∀ {l : List Inc} {x : Inc}, x ∈ l → x.sub ∈ consI l ∧ x.sup ∈ consI l
 | y :: l, x, h => by
  simp only [consI, List.mem_cons]
  rcases List.mem_cons.1 h with rfl | h
  ·exact ⟨.inl rfl, .inr (.inl rfl)⟩
  ·have := mem_consI h; exact ⟨.inr (.inr this.1), .inr (.inr this.2)⟩
theorem mem_consF : ∀ {l : List Fac} {x : Fac}, x ∈ l → x.con ∈ consF l
 | y :: l, x, h => by
  simp only [consF, List.mem_cons]
  rcases List.mem_cons.1 h with rfl | h
  ·exact .inl rfl
  ·exact .inr (mem_consF h)
noncomputable def ir20 : IFn := ⟨18, [⟨2, none⟩], (.seq (.reg [oA 1 (.box 30 (.r 0)), oA 2 (.mov (kI 0))]) (.seq (.reg [oA 3 (.fadr 3 (.r 1)), oL 4 3 none, oT 5 4 (.lenl (.r 4)), oA 6 (.fadr 4 (.r 1)), oL 7 6 none, oT 8 7 (.lenl (.r 7)), oA 9 (.bin .add (.r 5) (.r 8)), oA 10 (.fadr 5 (.r 1)), oL 11 10 none, oT 12 11 (.lenl (.r 11)), oA 13 (.bin .add (.r 9) (.r 12)), oA 14 (.fadr 6 (.r 1)), oL 15 14 none, oT 16 15 (.lenl (.r 15)), oA 17 (.bin .add (.r 13) (.r 16)), oA 2 (kM 17)]) .ret))⟩
theorem c20 : cfunc Tryz.prog 20 = some ir20 := by kernel_rfl
theorem k20 : okIR (max 1 ir20.n) ir20.ir = true := by decide +kernel
theorem s_Axioms (b : Bas) (hb : b.ok) (j : JH) {G : Nat → Option (List AV)} : JC Tryz.prog G 20 [.agg b.enc] j (RET (I64 b.count) j) := by
 obtain ⟨h1, h2, h3, h4⟩ := (⟨hb.li, hb.lr, hb.lf, hb.ll⟩ : _ ∧ _ ∧ _ ∧ _)
 refine JC.run hmix c20 (by exact k20) ?_
 (try simp only[↓jr,jw,seval,ir20])
 repeat' ((first | refine wq.intro (fun _ => ?_) (fun _ => ?_) | refine ww.intro (fun _ => ?_) (fun _ => ?_) | refine wc.intro (by first | omega | (unfold R64; omega) | trivial) ?_ | refine wr.in (by unfold R64; omega) ?_) <;> first | contradiction | (try simp only[↓jr,jw,seval]))
 refine JFIN.rb ?_
 simp only [Bas.count, Int.natCast_add]; exact SubB.v
noncomputable def ir87 : IFn := ⟨15, [⟨4, none⟩], (.seq (.reg [oA 2 (.box 24 (.r 0)), oA 4 (.mov (kB false))]) (.seq (.reg [oA 5 (kM 1), oA 6 (.bin .geq (.r 5) (kI 0)), oA 7 (kM 6), ⟨(some 8), (some ((7, true))), none, (kM 1)⟩, ⟨(some 9), (some ((7, true))), none, (.fadr 1 (.r 2))⟩, ⟨(some 10), (some ((7, true))), (some (.r 9)), (.load none (.r 9))⟩, ⟨(some 11), (some ((7, true))), (some (.r 10)), (.lenl (.r 10))⟩, ⟨(some 12), (some ((7, true))), none, (.bin .mul (kI 2) (.r 11))⟩, ⟨(some 13), (some ((7, true))), none, (.bin .lss (.r 8) (.r 12))⟩, oA 14 (.pick (.r 7) (.r 13) (kB false)), oA 4 (kM 14)]) .ret))⟩
theorem c87 : cfunc Tryz.prog 87 = some ir87 := by kernel_rfl
theorem k87 : okIR (max 2 ir87.n) ir87.ir = true := by decide +kernel
theorem s_Role (n : Nms) (hn : n.ok) (r : Int) (j : JH) {G : Nat → Option (List AV)} : JC Tryz.prog G 87 [.agg n.enc, I64 r] j (RET (BOO (rolOK n r)) j) := by
 obtain ⟨h1, h2, h3⟩ := hn
 refine JC.run hmix c87 (by exact k87) ?_
 (try simp only[↓jr,jw,seval,ir87])
 repeat' ((first | refine wq.intro (fun _ => ?_) (fun _ => ?_) | refine ww.intro (fun _ => ?_) (fun _ => ?_) | refine wc.intro (by first | omega | (unfold R64; omega) | trivial) ?_ | refine wr.in (by unfold R64; omega) ?_) <;> first | contradiction | (try simp only[↓jr,jw,seval]))
 all_goals
  refine JFIN.rb ?_
  unfold rolOK
  simp only [*, decide_true, Bool.true_and, decide_false, Bool.false_and]
  exact SubB.v
noncomputable def ir88 : IFn := ⟨14, [⟨4, none⟩], (.seq (.reg [oA 2 (.box 24 (.r 0)), oA 4 (.mov (kB false))]) (.seq (.reg [oA 5 (kM 1), oA 6 (.bin .geq (.r 5) (kI 0)), oA 7 (kM 6), ⟨(some 8), (some ((7, true))), none, (kM 1)⟩, ⟨(some 9), (some ((7, true))), none, (.fadr 2 (.r 2))⟩, ⟨(some 10), (some ((7, true))), (some (.r 9)), (.load none (.r 9))⟩, ⟨(some 11), (some ((7, true))), (some (.r 10)), (.lenl (.r 10))⟩, ⟨(some 12), (some ((7, true))), none, (.bin .lss (.r 8) (.r 11))⟩, oA 13 (.pick (.r 7) (.r 12) (kB false)), oA 4 (kM 13)]) .ret))⟩
theorem c88 : cfunc Tryz.prog 88 = some ir88 := by kernel_rfl
theorem k88 : okIR (max 2 ir88.n) ir88.ir = true := by decide +kernel
theorem s_Ind (n : Nms) (hn : n.ok) (r : Int) (j : JH) {G : Nat → Option (List AV)} : JC Tryz.prog G 88 [.agg n.enc, I64 r] j (RET (BOO (indOK n r)) j) := by
 obtain ⟨h1, h2, h3⟩ := hn
 refine JC.run hmix c88 (by exact k88) ?_
 (try simp only[↓jr,jw,seval,ir88])
 repeat' ((first | refine wq.intro (fun _ => ?_) (fun _ => ?_) | refine ww.intro (fun _ => ?_) (fun _ => ?_) | refine wc.intro (by first | omega | (unfold R64; omega) | trivial) ?_ | refine wr.in (by unfold R64; omega) ?_) <;> first | contradiction | (try simp only[↓jr,jw,seval]))
 all_goals
  refine JFIN.rb ?_
  unfold indOK
  simp only [*, decide_true, Bool.true_and, decide_false, Bool.false_and]
  exact SubB.v
noncomputable def ir32 : IFn := ⟨37, [⟨2, none⟩], (.seq (.reg [oA 1 (.box 30 (.r 0)), oA 2 (.mov (.k (.sl .nil 0 [])))]) (.seq (.reg [oA 3 (.mov (.k (.sl .nil 0 [])))]) (.seq (.seq (.reg [oA 8 (.fadr 3 (.r 1)), oL 9 8 none, oT 10 9 (.lenl (.r 9)), oA 11 (.mov (kI 0))]) (.block 0 (.loop (.seq (.reg [oA 12 (.bin .lss (.r 11) (.r 10))]) (.seq (.cond (.r 12) .skip (.exit 0)) (.seq (.block 1 (.seq (.reg [oA 13 (.iasl 6 (.r 9) (.r 11)), oL 14 13 (some 6), oA 5 (.alloc 113 [.v (.int .i64 0), .v (.int .i64 0), .sl .nil 0 [], .v (.int .i64 0), .v (.int .i64 0), .sl .nil 0 []]), oN (.store 6 (.r 5) (.r 14))]) (.reg [oA 15 (kM 3), oA 16 (.fadr 0 (.r 5)), oL 17 16 (some 3), oA 18 (.fadr 3 (.r 5)), oL 19 18 (some 3), oA 20 (.bsl 2 3 [.v (.int .i64 0), .v (.int .i64 0), .sl .nil 0 []] [(0, (3, .r 17)), (3, (3, .r 19))]), oA 21 (.app 3 40 (.r 15) (.r 20)), oA 3 (kM 21)]))) (.reg [oA 22 (.bin .add (.r 11) (kI 1)), oA 11 (kM 22)]))))))) (.seq (.seq (.reg [oA 23 (.fadr 5 (.r 1)), oL 24 23 none, oT 25 24 (.lenl (.r 24)), oA 26 (.mov (kI 0))]) (.block 2 (.loop (.seq (.reg [oA 27 (.bin .lss (.r 26) (.r 25))]) (.seq (.cond (.r 27) .skip (.exit 2)) (.seq (.block 3 (.seq (.reg [oA 28 (.iasl 4 (.r 24) (.r 26)), oL 29 28 (some 4), oA 7 (.alloc 118 [.v (.int .i64 0), .v (.int .i64 0), .v (.int .i64 0), .sl .nil 0 []]), oN (.store 4 (.r 7) (.r 29))]) (.reg [oA 30 (kM 3), oA 31 (.fadr 1 (.r 7)), oL 32 31 (some 3), oA 33 (.bsl 1 3 [.v (.int .i64 0), .v (.int .i64 0), .sl .nil 0 []] [(0, (3, .r 32))]), oA 34 (.app 3 40 (.r 30) (.r 33)), oA 3 (kM 34)]))) (.reg [oA 35 (.bin .add (.r 26) (kI 1)), oA 26 (kM 35)]))))))) (.seq (.reg [oA 36 (kM 3), oA 2 (kM 36)]) .ret)))))⟩
theorem c32 : cfunc Tryz.prog 32 = some ir32 := by kernel_rfl
theorem k32 : okIR (max 1 ir32.n) ir32.ir = true := by decide +kernel
theorem s_Concepts (b : Bas) (hi : b.incls.length ≤ 1000000) (hf : b.facts.length ≤ 1000000) (j : JH) {G : Nat → Option (List AV)} : JC Tryz.prog G 32 [.agg b.enc] j (RET (.sl .none b.cons.length (encs Con.enc b.cons)) j) := by
 refine JC.run hmix c32 (by exact k32) ?_
 (try simp only[↓jr,jw,seval,ir32])
 have hlI := consI_len b.incls
 have hlF := consF_len b.facts
 refine JLOOP.of (σ := Nat × List Con × Tok × JH) (fun s => s.1 ≤ (b.incls).length ∧ TokExt j s.2.2.2 ∧ CanApp j s.2.2.2 s.2.2.1 3 s.2.1.length ∧ s.2.1 ++ consI (b.incls.drop s.1) = consI b.incls) (fun s => (b.incls).length - s.1) (fun s => [(11, I64 s.1), (10, I64 b.incls.length), (9, .sl .none b.incls.length (encs Inc.enc b.incls)), (1, .ptr (pid j.next 0) 0), (3, .sl s.2.2.1 s.2.1.length (encs Con.enc s.2.1))]) (fun s => ext s.2.2.2 [.cells 30 b.enc]) (0, [], .nil, j) ⟨Nat.zero_le _, ?_⟩ ?_ (JDropH.refl _) ?_
 ·exact ⟨TokExt.refl _, CanApp.nil, rfl⟩
 ·((try simp only[↓jr,jw,seval,DL]) <;> exact sbq)
 rintro ⟨k, ac, tk, jx⟩ ⟨hk, hI⟩
 try simp only at hk hI
 (try simp only[↓jr,jw,seval])
 refine wq.intro (fun h1 => ?_) (fun h1 => ?_)
 ·obtain ⟨ht, hc, hI⟩ := hI
  have hlt : k < (b.incls).length := by omega
  obtain ⟨x, r, hd⟩ : ∃ c_ l_, List.drop k (b.incls) = c_ :: l_ := ⟨_, _, List.drop_eq_getElem_cons hlt⟩
  have hd1 : List.drop (k + 1) (b.incls) = r := by rw [← List.drop_drop, hd]; rfl
  have hmem : x ∈ b.incls := List.mem_of_mem_drop (hd ▸ List.mem_cons_self)
  (try simp only[↓jr,jw,seval,hd])
  refine wc.intro (by omega) ?_
  (try simp only[↓jr,jw,seval,hd])
  rw [hd] at hI
  simp only [consI] at hI
  have hla : ac.length + 2 ≤ 2 * b.incls.length := by rw [← hlI, ← hI]; simp
  have e2 : encs Con.enc [x.sub, x.sup] = x.sub.enc ++ x.sup.enc := by simp [encs]
  refine JAPP.can' hc.push (ht.push 2) (by rw [d_len1]) (by rw [List.length_append, Con.len, Con.len]) (by rw [List.all_append, d_con9, d_con9]; rfl) (by omega) (by omega) ?_
  intro tok1 j1 hcan ht3 hle
  have hle' : jx.tnext ≤ j1.tnext := Nat.le_trans (Nat.le_succ _) hle
  (try simp only[↓jr,jw,seval])
  refine wc.intro (R64_add hlt (by omega)) ?_; (try simp only[↓jr,jw,seval])
  have e1 : (ac ++ [x.sub, x.sup]).length = ac.length + 2 := by simp
  refine JNEXT.of (k + 1, ac ++ [x.sub, x.sup], tok1, j1) ⟨by simp only; omega, ht3, by rw [e1]; exact hcan, by simp only [hd1]; rw [← hI]; simp⟩ (by simp only; omega) ?_ (JDropH.nextT ht ht3 (TokExt.refl _) hle' (by simp only [LSub, and_self, true_or, and_true]))
  (try simp only[↓jr,jw,seval,DL,e1,encs_append,e2])
  exact ⟨SubB.v, SubB.v, SubB.pure (by simp only [AV.pure]; exact encs_pur Inc.pur _), SubB.ptr (by have := ht3.next; unfold pid; omega), SubB.can hcan (by rw [pures_append, pures_append, encs_pur Con.pur, Con.pur, Con.pur]; rfl)⟩
 obtain ⟨ht, hc, hI⟩ := hI
 (try simp only[↓jr,jw,seval,ht.next])
 rw [List.drop_eq_nil_of_le (by omega)] at hI
 simp only [consI, List.append_nil] at hI
 have hal : ac.length = 2 * b.incls.length := by rw [← hlI, hI]
 clear h1 hk
 refine JLOOP.of (σ := Nat × List Con × Tok × JH) (fun s => s.1 ≤ b.facts.length ∧ TokExt j s.2.2.2 ∧ CanApp j s.2.2.2 s.2.2.1 3 s.2.1.length ∧ s.2.1 ++ consF (b.facts.drop s.1) = b.cons) (fun s => b.facts.length - s.1)
  (fun s => [(26, I64 s.1), (25, I64 b.facts.length), (24, .sl .none b.facts.length (encs Fac.enc b.facts)), (1, .ptr (pid j.next 0) 0), (3, .sl s.2.2.1 s.2.1.length (encs Con.enc s.2.1))]) (fun s => ext s.2.2.2 [.cells 30 b.enc]) (0, ac, tk, jx)
  ⟨Nat.zero_le _, ht, hc, by simp only [List.drop_zero]; rw [hI]; rfl⟩ ?_ (JDropH.refl _) ?_
 ·(try simp only[↓jr,jw,seval,DL])
  exact ⟨SubB.v, SubB.v, SubB.pure (by simp only [AV.pure]; exact encs_pur Fac.pur _), SubB.ptr (by have := ht.next; unfold pid; omega), SubB.can hc (encs_pur Con.pur _)⟩
 clear ht hc hI hal
 rintro ⟨k, ac, tk, jx⟩ ⟨hk, ht, hc, hI⟩
 simp only at hk ht hc hI
 (try simp only[↓jr,jw,seval])
 refine wq.intro (fun h1 => ?_) (fun h1 => ?_)
 ·have hlt : k < (b.facts).length := by omega
  obtain ⟨x, r, hd⟩ : ∃ c_ l_, List.drop k (b.facts) = c_ :: l_ := ⟨_, _, List.drop_eq_getElem_cons hlt⟩
  have hd1 : List.drop (k + 1) (b.facts) = r := by rw [← List.drop_drop, hd]; rfl
  have hmem : x ∈ b.facts := List.mem_of_mem_drop (hd ▸ List.mem_cons_self)
  (try simp only[↓jr,jw,seval,hd])
  refine wc.intro (by omega) ?_
  (try simp only[↓jr,jw,seval,hd])
  rw [hd] at hI
  simp only [consF] at hI
  have hla : ac.length + 1 ≤ 2 * b.incls.length + b.facts.length := by
   have : b.cons.length = 2 * b.incls.length + b.facts.length := by unfold Bas.cons; rw [List.length_append, hlI, hlF]
   rw [← this, ← hI]; simp
  have e2 : encs Con.enc [x.con] = x.con.enc := by simp [encs]
  refine JAPP.can' hc.push (ht.push 1) (by rw [d_len1]) (by rw [Con.len]) d_con9 (by omega) (by omega) ?_
  intro tok1 j1 hcan ht3 hle
  have hle' : jx.tnext ≤ j1.tnext := Nat.le_trans (Nat.le_succ _) hle
  (try simp only[↓jr,jw,seval])
  refine wc.intro (R64_add hlt (by omega)) ?_; (try simp only[↓jr,jw,seval])
  have e1 : (ac ++ [x.con]).length = ac.length + 1 := by simp
  refine JNEXT.of (k + 1, ac ++ [x.con], tok1, j1) ⟨by simp only; omega, ht3, by rw [e1]; exact hcan, by simp only [hd1]; rw [← hI]; simp⟩ (by simp only; omega) ?_ (JDropH.nextT ht ht3 (TokExt.refl _) hle' (by simp only [LSub, and_self, true_or, and_true]))
  (try simp only[↓jr,jw,seval,DL,e1,encs_append,e2])
  exact ⟨SubB.v, SubB.v, SubB.pure (by simp only [AV.pure]; exact encs_pur Fac.pur _), SubB.ptr (by have := ht3.next; unfold pid; omega), SubB.can hcan (by rw [pures_append, encs_pur Con.pur, Con.pur]; rfl)⟩
 (try simp only[↓jr,jw,seval])
 rw [List.drop_eq_nil_of_le (by omega)] at hI
 simp only [consF, List.append_nil] at hI
 refine JFIN.ret ((JDropH.back ht).of_ext) ?_
 rw [← hI]
 exact SubB.sl rfl (SubBs.pure (encs_pur Con.pur _))
def fewB (M : Int) (b : Bas) : Bool := decide (b.incls.length ≤ 200) && decide (b.roles.length ≤ 200) && decide (b.facts.length ≤ 200) && decide (b.links.length ≤ 200) && fewNames b.nms && b.cons.all (fun c => decide ((c.nodes : Int) ≤ M)) && decide ((sumN b.cons : Int) ≤ M)
noncomputable def ir8 : IFn := ⟨61, [⟨4, none⟩], (.seq (.reg [oA 2 (.box 30 (.r 0)), oA 4 (.mov (kB false))]) (.seq (.seq (.reg [oA 10 (.fadr 3 (.r 2)), oL 11 10 none, oT 12 11 (.lenl (.r 11)), oA 13 (.bin .gtr (.r 12) (kI 200)), oA 14 (kM 13), ⟨(some 15), (some ((14, false))), none, (.fadr 4 (.r 2))⟩, ⟨(some 16), (some ((14, false))), (some (.r 15)), (.load none (.r 15))⟩, ⟨(some 17), (some ((14, false))), (some (.r 16)), (.lenl (.r 16))⟩, ⟨(some 18), (some ((14, false))), none, (.bin .gtr (.r 17) (kI 200))⟩, oA 19 (.pick (.r 14) (kB true) (.r 18)), oA 20 (kM 19), ⟨(some 21), (some ((20, false))), none, (.fadr 5 (.r 2))⟩, ⟨(some 22), (some ((20, false))), (some (.r 21)), (.load none (.r 21))⟩, ⟨(some 23), (some ((20, false))), (some (.r 22)), (.lenl (.r 22))⟩, ⟨(some 24), (some ((20, false))), none, (.bin .gtr (.r 23) (kI 200))⟩, oA 25 (.pick (.r 20) (kB true) (.r 24)), oA 26 (kM 25), ⟨(some 27), (some ((26, false))), none, (.fadr 6 (.r 2))⟩, ⟨(some 28), (some ((26, false))), (some (.r 27)), (.load none (.r 27))⟩, ⟨(some 29), (some ((26, false))), (some (.r 28)), (.lenl (.r 28))⟩, ⟨(some 30), (some ((26, false))), none, (.bin .gtr (.r 29) (kI 200))⟩, oA 31 (.pick (.r 26) (kB true) (.r 30)), oA 32 (kM 31), ⟨(some 33), (some ((32, false))), none, (.fadr 0 (.r 2))⟩, ⟨(some 34), (some ((32, false))), (some (.r 33)), (.load (some 3) (.r 33))⟩, ⟨(some 35), (some ((32, false))), (some (.r 34)), (.call 31 [.r 34])⟩, ⟨(some 36), (some ((32, false))), none, (.not (.r 35))⟩, oA 37 (.pick (.r 32) (kB true) (.r 36))]) (.cond (.r 37) (.seq (.reg [oA 4 (.mov (kB false))]) .ret) .skip)) (.seq (.reg [oA 5 (.mov (kI 0))]) (.seq (.seq (.reg [oL 38 2 (some 7), oT 39 38 (.call 32 [.r 38]), oT 40 39 (.lenl (.r 39)), oA 41 (.mov (kI 0))]) (.block 0 (.loop (.seq (.reg [oA 42 (.bin .lss (.r 41) (.r 40))]) (.seq (.cond (.r 42) .skip (.exit 0)) (.seq (.block 1 (.seq (.reg [oA 43 (.iasl 3 (.r 39) (.r 41)), oL 44 43 (some 3), oA 7 (.alloc 71 [.v (.int .i64 0), .v (.int .i64 0), .sl .nil 0 []]), oN (.store 3 (.r 7) (.r 44))]) (.seq (.seq (.reg [oL 45 7 (some 3), oA 46 (kM 1), oA 47 (.call 33 [.r 45, .r 46]), oA 48 (.not (.r 47))]) (.cond (.r 48) (.seq (.reg [oA 4 (.mov (kB false))]) .ret) .skip)) (.seq (.reg [oL 50 7 (some 3), oT 51 50 (.call 34 [.r 50]), oA 49 (kM 51), oA 52 (.ext (.r 49) 0), oA 53 (.ext (.r 49) 1), oA 8 (kM 52), oA 9 (kM 53)]) (.reg [oA 54 (kM 5), oA 55 (kM 8), oA 56 (.bin .add (.r 54) (.r 55)), oA 5 (kM 56)]))))) (.reg [oA 57 (.bin .add (.r 41) (kI 1)), oA 41 (kM 57)]))))))) (.seq (.reg [oA 58 (kM 5), oA 59 (kM 1), oA 60 (.bin .leq (.r 58) (.r 59)), oA 4 (kM 60)]) .ret)))))⟩
theorem c8 : cfunc Tryz.prog 8 = some ir8 := by kernel_rfl
theorem k8 : okIR (max 2 ir8.n) ir8.ir = true := by decide +kernel
theorem s_Few (b : Bas) (hb : b.ok) (M : Int) (h0 : 0 ≤ M) (hM : M ≤ 4000000000) (j : JH) {G : Nat → Option (List AV)} : JC Tryz.prog G 8 [.agg b.enc, I64 M] j (RET (BOO (fewB M b)) j) := by
 have fls : ∀ {l : List AObj}, fewB M b = false → @JFIN (ext j []) (ext j l) (.v (.bool false)) ⟨fun y j' => RET (BOO (fewB M b)) j (.ret y) j'⟩ := by
  intro l h
  refine JFIN.rb ?_
  rw [h]; exact SubB.v
 refine JC.run hmix c8 (by exact k8) ?_
 (try simp only[↓jr,jw,seval,ir8])
 refine wq.intro (fun g1 => by (try simp only[↓jr,jw,seval]); exact fls (by unfold fewB; rw [decide_eq_false (by omega : ¬ b.incls.length ≤ 200)]; simp)) (fun g1 => ?_)
 (try simp only[↓jr,jw,seval])
 refine wq.intro (fun g2 => by (try simp only[↓jr,jw,seval]); exact fls (by unfold fewB; rw [decide_eq_false (by omega : ¬ b.roles.length ≤ 200)]; simp)) (fun g2 => ?_)
 (try simp only[↓jr,jw,seval])
 refine wq.intro (fun g3 => by (try simp only[↓jr,jw,seval]); exact fls (by unfold fewB; rw [decide_eq_false (by omega : ¬ b.facts.length ≤ 200)]; simp)) (fun g3 => ?_)
 (try simp only[↓jr,jw,seval])
 refine wq.intro (fun g4 => by (try simp only[↓jr,jw,seval]); exact fls (by unfold fewB; rw [decide_eq_false (by omega : ¬ b.links.length ≤ 200)]; simp)) (fun g4 => ?_)
 (try simp only[↓jr,jw,seval])
 refine JCs.ret (s_FewNames b.nms hb.nms hb.short _) ?_
 (try simp only[↓jr,jw,seval])
 refine ww.intro (fun g5 => ?_) (fun g5 => by (try simp only[↓jr,jw,seval]); exact fls (by unfold fewB; rw [g5]; simp))
 (try simp only[↓jr,jw,seval])
 refine JCs.ret (s_Concepts b (by omega) (by omega) _) ?_
 (try simp only[↓jr,jw,seval])
 have hB : fewB M b = (b.cons.all (fun c => decide ((c.nodes : Int) ≤ M)) && decide ((sumN b.cons : Int) ≤ M)) := by
  unfold fewB; rw [g5, decide_eq_true (by omega : b.incls.length ≤ 200), decide_eq_true (by omega : b.roles.length ≤ 200), decide_eq_true (by omega : b.facts.length ≤ 200), decide_eq_true (by omega : b.links.length ≤ 200)]; rfl
 have hlc : b.cons.length ≤ 600 := by unfold Bas.cons; rw [List.length_append, consI_len, consF_len]; omega
 refine JLOOP.of (σ := Nat × Nat) (fun s => s.1 ≤ (b.cons).length ∧ s.2 ≤ 4000000000 * s.1 ∧ s.2 + sumN (b.cons.drop s.1) = sumN b.cons ∧ (b.cons.drop s.1).all (fun c => decide ((c.nodes : Int) ≤ M)) = b.cons.all (fun c => decide ((c.nodes : Int) ≤ M))) (fun s => (b.cons).length - s.1) (fun s => [(41, I64 s.1), (40, I64 b.cons.length), (39, .sl .none b.cons.length (encs Con.enc b.cons)), (2, .ptr (pid j.next 0) 0), (5, I64 s.2), (1, I64 M)]) (fun s => ext j [.cells 30 b.enc]) (0, 0) ⟨Nat.zero_le _, ?_⟩ ?_ (JDropH.refl _) ?_
 ·exact ⟨by simp, by simp, rfl⟩
 ·((try simp only[↓jr,jw,seval,DL]) <;> exact sbq)
 rintro ⟨k, x⟩ ⟨hk, hI⟩
 try simp only at hk hI
 (try simp only[↓jr,jw,seval])
 refine wq.intro (fun h1 => ?_) (fun h1 => ?_)
 ·obtain ⟨hx, hs, hI⟩ := hI
  have hlt : k < (b.cons).length := by omega
  obtain ⟨c, r, hd⟩ : ∃ c_ l_, List.drop k (b.cons) = c_ :: l_ := ⟨_, _, List.drop_eq_getElem_cons hlt⟩
  have hd1 : List.drop (k + 1) (b.cons) = r := by rw [← List.drop_drop, hd]; rfl
  have hmem : c ∈ b.cons := List.mem_of_mem_drop (hd ▸ List.mem_cons_self)
  (try simp only[↓jr,jw,seval,hd])
  refine wc.intro (by omega) ?_
  (try simp only[↓jr,jw,seval,hd])
  rw [hd] at hI
  rw [hd] at hs
  simp only [sumN] at hs
  rw [List.all_cons] at hI
  refine JCs.ret (s_Fits c M _ (hb.con hmem) (by omega) (by omega)) ?_
  (try simp only[↓jr,jw,seval])
  refine wq.intro (fun q1 => ?_) (fun q1 => by (try simp only[↓jr,jw,seval]); exact fls (by rw [hB, ← hI, decide_eq_false q1]; simp))
  (try simp only[↓jr,jw,seval])
  refine JCs.ret (s_Size c _ (hb.con hmem) (by omega)) ?_
  (try simp only[↓jr,jw,seval])
  refine wc.intro (by unfold R64; omega) ?_
  (try simp only[↓jr,jw,seval])
  refine wc.intro (R64_add hlt (by omega)) ?_; (try simp only[↓jr,jw,seval])
  rw [decide_eq_true q1, Bool.true_and] at hI
  refine JNEXT.of (k + 1, x + c.nodes) ⟨by simp only; omega, by simp only; omega, by simp only [hd1]; omega, by simp only [hd1]; exact hI⟩ (by simp only; omega) ?_ JDropH.nx
  simp only [Int.natCast_add]
  ((try simp only[↓jr,jw,seval,DL]) <;> exact sbq)
 obtain ⟨hx, hs, hI⟩ := hI
 (try simp only[↓jr,jw,seval])
 rw [List.drop_eq_nil_of_le (by omega)] at hI hs
 simp only [sumN, List.all_nil, Nat.add_zero] at hs hI
 refine JFIN.rb ?_
 rw [hB, ← hI, ← hs]; exact SubB.v
end
section
open Go
variable {m : GM}
def basR (b : Bas) : Bool := namesOK b.nms && decide (b.count ≤ 60) && (b.cons.all (conOK b.nms) && (b.roles.all (fun x => rolOK b.nms x.sub && rolOK b.nms x.sup) && (b.facts.all (fun x => indOK b.nms x.ind) && (b.links.all (lnkOK b.nms) && decide (sumN b.cons ≤ 400)))))
noncomputable def ir48 : IFn := ⟨118, [⟨2, none⟩], (.seq (.reg [oA 1 (.box 30 (.r 0)), oA 2 (.mov (kB false))]) (.seq (.seq (.reg [oA 14 (.fadr 0 (.r 1)), oL 15 14 (some 3), oT 16 15 (.call 85 [.r 15]), oA 17 (.not (.r 16)), oA 18 (kM 17), ⟨(some 19), (some ((18, false))), (some (.r 1)), (.load (some 7) (.r 1))⟩, ⟨(some 20), (some ((18, false))), (some (.r 19)), (.call 20 [.r 19])⟩, ⟨(some 21), (some ((18, false))), none, (.bin .gtr (.r 20) (kI 60))⟩, oA 22 (.pick (.r 18) (kB true) (.r 21))]) (.cond (.r 22) (.seq (.reg [oA 2 (.mov (kB false))]) .ret) .skip)) (.seq (.reg [oA 3 (.mov (kI 0))]) (.seq (.seq (.reg [oL 23 1 (some 7), oT 24 23 (.call 32 [.r 23]), oT 25 24 (.lenl (.r 24)), oA 26 (.mov (kI 0))]) (.block 0 (.loop (.seq (.reg [oA 27 (.bin .lss (.r 26) (.r 25))]) (.seq (.cond (.r 27) .skip (.exit 0)) (.seq (.block 1 (.seq (.reg [oA 28 (.iasl 3 (.r 24) (.r 26)), oL 29 28 (some 3), oA 5 (.alloc 71 [.v (.int .i64 0), .v (.int .i64 0), .sl .nil 0 []]), oN (.store 3 (.r 5) (.r 29))]) (.seq (.seq (.reg [oA 30 (.fadr 0 (.r 1)), oL 31 30 (some 3), oL 32 5 (some 3), oA 33 (.call 86 [.r 31, .r 32]), oA 34 (.not (.r 33))]) (.cond (.r 34) (.seq (.reg [oA 2 (.mov (kB false))]) .ret) .skip)) (.seq (.reg [oL 36 5 (some 3), oT 37 36 (.call 34 [.r 36]), oA 35 (kM 37), oA 38 (.ext (.r 35) 0), oA 39 (.ext (.r 35) 1), oA 6 (kM 38), oA 7 (kM 39)]) (.reg [oA 40 (kM 3), oA 41 (kM 6), oA 42 (.bin .add (.r 40) (.r 41)), oA 3 (kM 42)]))))) (.reg [oA 43 (.bin .add (.r 26) (kI 1)), oA 26 (kM 43)]))))))) (.seq (.seq (.reg [oA 44 (.fadr 4 (.r 1)), oL 45 44 none, oT 46 45 (.lenl (.r 45)), oA 47 (.mov (kI 0))]) (.block 2 (.loop (.seq (.reg [oA 48 (.bin .lss (.r 47) (.r 46))]) (.seq (.cond (.r 48) .skip (.exit 2)) (.seq (.block 3 (.seq (.reg [oA 49 (.iasl 2 (.r 45) (.r 47)), oL 50 49 (some 2), oA 9 (.alloc 116 [.v (.int .i64 0), .v (.int .i64 0)]), oN (.store 2 (.r 9) (.r 50))]) (.seq (.reg [oA 51 (.fadr 0 (.r 1)), oL 52 51 (some 3), oA 53 (.fadr 0 (.r 9)), oL 54 53 none, oA 55 (.call 87 [.r 52, .r 54]), oA 56 (.not (.r 55)), oA 57 (kM 56), ⟨(some 58), (some ((57, false))), none, (.fadr 0 (.r 1))⟩, ⟨(some 59), (some ((57, false))), (some (.r 58)), (.load (some 3) (.r 58))⟩, ⟨(some 60), (some ((57, false))), none, (.fadr 1 (.r 9))⟩, ⟨(some 61), (some ((57, false))), (some (.r 60)), (.load none (.r 60))⟩, ⟨(some 62), (some ((57, false))), none, (.call 87 [.r 59, .r 61])⟩, ⟨(some 63), (some ((57, false))), none, (.not (.r 62))⟩, oA 64 (.pick (.r 57) (kB true) (.r 63))]) (.cond (.r 64) (.seq (.reg [oA 2 (.mov (kB false))]) .ret) .skip)))) (.reg [oA 65 (.bin .add (.r 47) (kI 1)), oA 47 (kM 65)]))))))) (.seq (.seq (.reg [oA 66 (.fadr 5 (.r 1)), oL 67 66 none, oT 68 67 (.lenl (.r 67)), oA 69 (.mov (kI 0))]) (.block 4 (.loop (.seq (.reg [oA 70 (.bin .lss (.r 69) (.r 68))]) (.seq (.cond (.r 70) .skip (.exit 4)) (.seq (.block 5 (.seq (.reg [oA 71 (.iasl 4 (.r 67) (.r 69)), oL 72 71 (some 4), oA 11 (.alloc 118 [.v (.int .i64 0), .v (.int .i64 0), .v (.int .i64 0), .sl .nil 0 []]), oN (.store 4 (.r 11) (.r 72))]) (.seq (.reg [oA 73 (.fadr 0 (.r 1)), oL 74 73 (some 3), oA 75 (.fadr 0 (.r 11)), oL 76 75 none, oA 77 (.call 88 [.r 74, .r 76]), oA 78 (.not (.r 77))]) (.cond (.r 78) (.seq (.reg [oA 2 (.mov (kB false))]) .ret) .skip)))) (.reg [oA 79 (.bin .add (.r 69) (kI 1)), oA 69 (kM 79)]))))))) (.seq (.seq (.reg [oA 80 (.fadr 6 (.r 1)), oL 81 80 none, oT 82 81 (.lenl (.r 81)), oA 83 (.mov (kI 0))]) (.block 6 (.loop (.seq (.reg [oA 84 (.bin .lss (.r 83) (.r 82))]) (.seq (.cond (.r 84) .skip (.exit 6)) (.seq (.block 7 (.seq (.reg [oA 85 (.iasl 3 (.r 81) (.r 83)), oL 86 85 (some 3), oA 13 (.alloc 120 [.v (.int .i64 0), .v (.int .i64 0), .v (.int .i64 0)]), oN (.store 3 (.r 13) (.r 86))]) (.seq (.reg [oA 87 (.fadr 0 (.r 13)), oL 88 87 none, oA 89 (.bin .lss (.r 88) (kI 0)), oA 90 (kM 89), ⟨(some 91), (some ((90, false))), none, (.fadr 0 (.r 13))⟩, ⟨(some 92), (some ((90, false))), (some (.r 91)), (.load none (.r 91))⟩, ⟨(some 93), (some ((90, false))), none, (.fadr 0 (.r 1))⟩, ⟨(some 94), (some ((90, false))), none, (.fadr 1 (.r 93))⟩, ⟨(some 95), (some ((90, false))), (some (.r 94)), (.load none (.r 94))⟩, ⟨(some 96), (some ((90, false))), (some (.r 95)), (.lenl (.r 95))⟩, ⟨(some 97), (some ((90, false))), none, (.bin .geq (.r 92) (.r 96))⟩, oA 98 (.pick (.r 90) (kB true) (.r 97)), oA 99 (kM 98), ⟨(some 100), (some ((99, false))), none, (.fadr 0 (.r 1))⟩, ⟨(some 101), (some ((99, false))), (some (.r 100)), (.load (some 3) (.r 100))⟩, ⟨(some 102), (some ((99, false))), none, (.fadr 1 (.r 13))⟩, ⟨(some 103), (some ((99, false))), (some (.r 102)), (.load none (.r 102))⟩, ⟨(some 104), (some ((99, false))), none, (.call 88 [.r 101, .r 103])⟩, ⟨(some 105), (some ((99, false))), none, (.not (.r 104))⟩, oA 106 (.pick (.r 99) (kB true) (.r 105)), oA 107 (kM 106), ⟨(some 108), (some ((107, false))), none, (.fadr 0 (.r 1))⟩, ⟨(some 109), (some ((107, false))), (some (.r 108)), (.load (some 3) (.r 108))⟩, ⟨(some 110), (some ((107, false))), none, (.fadr 2 (.r 13))⟩, ⟨(some 111), (some ((107, false))), (some (.r 110)), (.load none (.r 110))⟩, ⟨(some 112), (some ((107, false))), none, (.call 88 [.r 109, .r 111])⟩, ⟨(some 113), (some ((107, false))), none, (.not (.r 112))⟩, oA 114 (.pick (.r 107) (kB true) (.r 113))]) (.cond (.r 114) (.seq (.reg [oA 2 (.mov (kB false))]) .ret) .skip)))) (.reg [oA 115 (.bin .add (.r 83) (kI 1)), oA 83 (kM 115)]))))))) (.seq (.reg [oA 116 (kM 3), oA 117 (.bin .leq (.r 116) (kI 400)), oA 2 (kM 117)]) .ret))))))))⟩
theorem c48 : cfunc Tryz.prog 48 = some ir48 := by kernel_rfl
theorem k48 : okIR (max 1 ir48.n) ir48.ir = true := by decide +kernel
theorem s_kIs (b : Bas) (hb : b.ok) (j : JH) {G : Nat → Option (List AV)} : JC Tryz.prog G 48 [.agg b.enc] j (RET (BOO (basR b)) j) := by
 have fls : ∀ {l : List AObj}, basR b = false → @JFIN (ext j []) (ext j l) (.v (.bool false)) ⟨fun y j' => RET (BOO (basR b)) j (.ret y) j'⟩ := by
  intro l h
  refine JFIN.rb ?_
  rw [h]; exact SubB.v
 obtain ⟨n1, n2, n3⟩ := hb.nms
 have l1 := hb.li
 have l2 := hb.lr
 have l3 := hb.lf
 have l4 := hb.ll
 refine JC.run hmix c48 (by exact k48) ?_
 (try simp only[↓jr,jw,seval,ir48])
 refine JCs.ret (s_rNames b.nms hb.nms hb.short _) ?_
 (try simp only[↓jr,jw,seval])
 refine ww.intro (fun g1 => ?_) (fun g1 => by (try simp only[↓jr,jw,seval]); exact fls (by unfold basR; rw [g1]; rfl))
 (try simp only[↓jr,jw,seval])
 refine JCs.ret (s_Axioms b hb _) ?_
 (try simp only[↓jr,jw,seval])
 refine wq.intro (fun g2 => by (try simp only[↓jr,jw,seval]); exact fls (by unfold basR; rw [decide_eq_false (by omega), Bool.and_false, Bool.false_and])) (fun g2 => ?_)
 (try simp only[↓jr,jw,seval])
 have hcnt : b.count ≤ 60 := by omega
 have hcnt' := hcnt
 unfold Bas.count at hcnt'
 refine JCs.ret (s_Concepts b (by omega) (by omega) _) ?_
 (try simp only[↓jr,jw,seval])
 have hB : basR b = (b.cons.all (conOK b.nms) && (b.roles.all (fun x => rolOK b.nms x.sub && rolOK b.nms x.sup) && (b.facts.all (fun x => indOK b.nms x.ind) && (b.links.all (lnkOK b.nms) && decide (sumN b.cons ≤ 400))))) := by
  unfold basR; rw [g1, decide_eq_true hcnt]; rfl
 have hlc : b.cons.length ≤ 200 := by unfold Bas.cons; rw [List.length_append, consI_len, consF_len]; omega
 refine JLOOP.of (σ := Nat × Nat) (fun s => s.1 ≤ (b.cons).length ∧ s.2 ≤ 4000000000 * s.1 ∧ s.2 + sumN (b.cons.drop s.1) = sumN b.cons ∧ (b.cons.drop s.1).all (conOK b.nms) = b.cons.all (conOK b.nms)) (fun s => (b.cons).length - s.1) (fun s => [(26, I64 s.1), (25, I64 b.cons.length), (24, .sl .none b.cons.length (encs Con.enc b.cons)), (1, .ptr (pid j.next 0) 0), (3, I64 s.2)]) (fun s => ext j [.cells 30 b.enc]) (0, 0) ⟨Nat.zero_le _, ?_⟩ ?_ (JDropH.refl _) ?_
 ·exact ⟨by simp, by simp, rfl⟩
 ·((try simp only[↓jr,jw,seval,DL]) <;> exact sbq)
 rintro ⟨k, x⟩ ⟨hk, hI⟩
 try simp only at hk hI
 (try simp only[↓jr,jw,seval])
 refine wq.intro (fun h1 => ?_) (fun h1 => ?_)
 ·obtain ⟨hx, hs, hI⟩ := hI
  have hlt : k < (b.cons).length := by omega
  obtain ⟨c, r, hd⟩ : ∃ c_ l_, List.drop k (b.cons) = c_ :: l_ := ⟨_, _, List.drop_eq_getElem_cons hlt⟩
  have hd1 : List.drop (k + 1) (b.cons) = r := by rw [← List.drop_drop, hd]; rfl
  have hmem : c ∈ b.cons := List.mem_of_mem_drop (hd ▸ List.mem_cons_self)
  (try simp only[↓jr,jw,seval,hd])
  refine wc.intro (by omega) ?_
  (try simp only[↓jr,jw,seval,hd])
  rw [hd] at hI
  rw [hd] at hs
  simp only [sumN] at hs
  rw [List.all_cons] at hI
  refine JCs.ret (s_Is b.nms c _ hb.nms (hb.con hmem)) ?_
  (try simp only[↓jr,jw,seval])
  refine ww.intro (fun q1 => ?_) (fun q1 => by (try simp only[↓jr,jw,seval]); exact fls (by rw [hB, ← hI, q1]; rfl))
  have hnd : c.nodes ≤ 400 := by unfold conOK at q1; simp only [Bool.and_eq_true, decide_eq_true_eq] at q1; exact q1.1.1
  (try simp only[↓jr,jw,seval])
  refine JCs.ret (s_Size c _ (hb.con hmem) (by omega)) ?_
  (try simp only[↓jr,jw,seval])
  refine wc.intro (by unfold R64; omega) ?_
  (try simp only[↓jr,jw,seval])
  refine wc.intro (R64_add hlt (by omega)) ?_; (try simp only[↓jr,jw,seval])
  rw [q1, Bool.true_and] at hI
  refine JNEXT.of (k + 1, x + c.nodes) ⟨by simp only; omega, by simp only; omega, by simp only [hd1]; omega, by simp only [hd1]; exact hI⟩ (by simp only; omega) ?_ JDropH.nx
  simp only [Int.natCast_add]
  ((try simp only[↓jr,jw,seval,DL]) <;> exact sbq)
 obtain ⟨hx, hs, hI⟩ := hI
 (try simp only[↓jr,jw,seval])
 rw [List.drop_eq_nil_of_le (by omega)] at hI hs
 simp only [sumN, List.all_nil, Nat.add_zero] at hs hI
 rw [← hI, Bool.true_and] at hB
 clear hI h1 hk hx
 refine JLOOP.of (σ := Nat) (fun s => s ≤ (b.roles).length ∧ ((b.roles.drop s).all (fun x => rolOK b.nms x.sub && rolOK b.nms x.sup)) = b.roles.all (fun x => rolOK b.nms x.sub && rolOK b.nms x.sup)) (fun s => (b.roles).length - s) (fun s => [(47, I64 s), (46, I64 b.roles.length), (45, .sl .none b.roles.length (encs RIn.enc b.roles)), (1, .ptr (pid j.next 0) 0), (3, I64 x)]) (fun s => ext j [.cells 30 b.enc]) 0 ⟨Nat.zero_le _, ?_⟩ ?_ (JDropH.refl _) ?_
 ·rfl
 ·((try simp only[↓jr,jw,seval,DL]) <;> exact sbq)
 rintro k ⟨hk, hI⟩
 try simp only at hk hI
 (try simp only[↓jr,jw,seval])
 refine wq.intro (fun h1 => ?_) (fun h1 => ?_)
 ·have hlt : k < (b.roles).length := by omega
  obtain ⟨y, r, hd⟩ : ∃ c_ l_, List.drop k (b.roles) = c_ :: l_ := ⟨_, _, List.drop_eq_getElem_cons hlt⟩
  have hd1 : List.drop (k + 1) (b.roles) = r := by rw [← List.drop_drop, hd]; rfl
  have hmem : y ∈ b.roles := List.mem_of_mem_drop (hd ▸ List.mem_cons_self)
  (try simp only[↓jr,jw,seval,hd])
  refine wc.intro (by omega) ?_
  (try simp only[↓jr,jw,seval,hd])
  rw [hd] at hI
  rw [List.all_cons] at hI
  refine JCs.ret (s_Role b.nms hb.nms _ _) ?_
  (try simp only[↓jr,jw,seval])
  refine ww.intro (fun c1 => ?_) (fun c1 => by (try simp only[↓jr,jw,seval]); exact fls (by rw [hB, ← hI, c1]; rfl))
  (try simp only[↓jr,jw,seval])
  refine JCs.ret (s_Role b.nms hb.nms _ _) ?_
  (try simp only[↓jr,jw,seval])
  refine ww.intro (fun c2 => ?_) (fun c2 => by (try simp only[↓jr,jw,seval]); exact fls (by rw [hB, ← hI, c1, c2]; rfl))
  (try simp only[↓jr,jw,seval])
  rw [c1, c2] at hI
  refine wc.intro (R64_add hlt (by omega)) ?_; (try simp only[↓jr,jw,seval])
  refine JNEXT.of (k + 1) ⟨by omega, by rw [hd1]; exact hI⟩ (by omega) ?_ JDropH.nx
  ((try simp only[↓jr,jw,seval,DL]) <;> exact sbq)
 (try simp only[↓jr,jw,seval])
 rw [List.drop_eq_nil_of_le (by omega), List.all_nil] at hI
 rw [← hI, Bool.true_and] at hB
 clear hI h1 hk
 refine JLOOP.of (σ := Nat) (fun s => s ≤ (b.facts).length ∧ (b.facts.drop s).all (fun x => indOK b.nms x.ind) = b.facts.all (fun x => indOK b.nms x.ind)) (fun s => (b.facts).length - s) (fun s => [(69, I64 s), (68, I64 b.facts.length), (67, .sl .none b.facts.length (encs Fac.enc b.facts)), (1, .ptr (pid j.next 0) 0), (3, I64 x)]) (fun s => ext j [.cells 30 b.enc]) 0 ⟨Nat.zero_le _, ?_⟩ ?_ (JDropH.refl _) ?_
 ·rfl
 ·((try simp only[↓jr,jw,seval,DL]) <;> exact sbq)
 rintro k ⟨hk, hI⟩
 try simp only at hk hI
 (try simp only[↓jr,jw,seval])
 refine wq.intro (fun h1 => ?_) (fun h1 => ?_)
 ·have hlt : k < (b.facts).length := by omega
  obtain ⟨y, r, hd⟩ : ∃ c_ l_, List.drop k (b.facts) = c_ :: l_ := ⟨_, _, List.drop_eq_getElem_cons hlt⟩
  have hd1 : List.drop (k + 1) (b.facts) = r := by rw [← List.drop_drop, hd]; rfl
  have hmem : y ∈ b.facts := List.mem_of_mem_drop (hd ▸ List.mem_cons_self)
  (try simp only[↓jr,jw,seval,hd])
  refine wc.intro (by omega) ?_
  (try simp only[↓jr,jw,seval,hd])
  rw [hd] at hI
  rw [List.all_cons] at hI
  refine JCs.ret (s_Ind b.nms hb.nms _ _) ?_
  (try simp only[↓jr,jw,seval])
  refine ww.intro (fun c1 => ?_) (fun c1 => by (try simp only[↓jr,jw,seval]); exact fls (by rw [hB, ← hI, c1]; rfl))
  (try simp only[↓jr,jw,seval])
  rw [c1] at hI
  refine wc.intro (R64_add hlt (by omega)) ?_; (try simp only[↓jr,jw,seval])
  refine JNEXT.of (k + 1) ⟨by omega, by rw [hd1]; exact hI⟩ (by omega) ?_ JDropH.nx
  ((try simp only[↓jr,jw,seval,DL]) <;> exact sbq)
 (try simp only[↓jr,jw,seval])
 rw [List.drop_eq_nil_of_le (by omega), List.all_nil] at hI
 rw [← hI, Bool.true_and] at hB
 clear hI h1 hk
 refine JLOOP.of (σ := Nat) (fun s => s ≤ (b.links).length ∧ (b.links.drop s).all (lnkOK b.nms) = b.links.all (lnkOK b.nms)) (fun s => (b.links).length - s) (fun s => [(83, I64 s), (82, I64 b.links.length), (81, .sl .none b.links.length (encs Lnk.enc b.links)), (1, .ptr (pid j.next 0) 0), (3, I64 x)]) (fun s => ext j [.cells 30 b.enc]) 0 ⟨Nat.zero_le _, ?_⟩ ?_ (JDropH.refl _) ?_
 ·rfl
 ·((try simp only[↓jr,jw,seval,DL]) <;> exact sbq)
 rintro k ⟨hk, hI⟩
 try simp only at hk hI
 (try simp only[↓jr,jw,seval])
 refine wq.intro (fun h1 => ?_) (fun h1 => ?_)
 ·have hlt : k < (b.links).length := by omega
  obtain ⟨y, r, hd⟩ : ∃ c_ l_, List.drop k (b.links) = c_ :: l_ := ⟨_, _, List.drop_eq_getElem_cons hlt⟩
  have hd1 : List.drop (k + 1) (b.links) = r := by rw [← List.drop_drop, hd]; rfl
  have hmem : y ∈ b.links := List.mem_of_mem_drop (hd ▸ List.mem_cons_self)
  (try simp only[↓jr,jw,seval,hd])
  refine wc.intro (by omega) ?_
  (try simp only[↓jr,jw,seval,hd])
  rw [hd] at hI
  rw [List.all_cons] at hI
  have bad : lnkOK b.nms y = false → basR b = false := fun q => by rw [hB, ← hI, q]; rfl
  refine wq.intro (fun c0 => by (try simp only[↓jr,jw,seval]); exact fls (bad (by unfold lnkOK; rw [decide_eq_false (by omega : ¬ 0 ≤ y.role)]; rfl))) (fun c0 => ?_)
  (try simp only[↓jr,jw,seval])
  refine wq.intro (fun c1 => by (try simp only[↓jr,jw,seval]); exact fls (bad (by unfold lnkOK; rw [decide_eq_false (by omega : ¬ y.role < b.nms.rs.length), Bool.and_false]; rfl))) (fun c1 => ?_)
  (try simp only[↓jr,jw,seval])
  have tl : (indOK b.nms y.fr && indOK b.nms y.to) = lnkOK b.nms y := by
   unfold lnkOK; rw [decide_eq_true (by omega : 0 ≤ y.role), decide_eq_true (by omega : y.role < b.nms.rs.length)]; rfl
  refine JCs.ret (s_Ind b.nms hb.nms _ _) ?_
  (try simp only[↓jr,jw,seval])
  refine ww.intro (fun c2 => ?_) (fun c2 => by (try simp only[↓jr,jw,seval]); exact fls (bad (by rw [← tl, c2]; rfl)))
  (try simp only[↓jr,jw,seval])
  refine JCs.ret (s_Ind b.nms hb.nms _ _) ?_
  (try simp only[↓jr,jw,seval])
  refine ww.intro (fun c3 => ?_) (fun c3 => by (try simp only[↓jr,jw,seval]); exact fls (bad (by rw [← tl, c2, c3]; rfl)))
  (try simp only[↓jr,jw,seval])
  rw [← tl, c2, c3] at hI
  refine wc.intro (R64_add hlt (by omega)) ?_; (try simp only[↓jr,jw,seval])
  refine JNEXT.of (k + 1) ⟨by omega, by rw [hd1]; exact hI⟩ (by omega) ?_ JDropH.nx
  ((try simp only[↓jr,jw,seval,DL]) <;> exact sbq)
 (try simp only[↓jr,jw,seval])
 rw [List.drop_eq_nil_of_le (by omega), List.all_nil] at hI
 refine JFIN.rb ?_
 rw [hB, ← hI, Bool.true_and, ← hs]
 have e : decide (x ≤ 400) = decide ((x : Int) ≤ 400) := decide_eq_decide.2 (by omega)
 rw [e]; exact SubB.v
def cgo (n : Nms) (c : Con) : Bool := decide (c.depth ≤ 20) && shaped n.cs.length n.rs.length c
theorem conG_cgo (n : Nms) (c : Con) (y : Int) : conG n c y = (decide ((c.nodes : Int) ≤ y) && cgo n c) := by unfold conG cgo; rw [Bool.and_assoc]
theorem conOK_cgo (n : Nms) (c : Con) : conOK n c = (decide (c.nodes ≤ 400) && cgo n c) := by unfold conOK cgo; rw [Bool.and_assoc]
theorem vI_eq (n : Nms) : ∀ (l : List Inc) (y : Int), 0 ≤ y → vI n l y = if (consI l).all (cgo n) = true ∧ (sumN (consI l) : Int) ≤ y then some (y - sumN (consI l)) else none
 | [], y, h => by simp [vI, consI, sumN, h]
 | x :: l, y, h => by
  simp only [vI, consI, sumN, List.all_cons, conG_cgo, Bool.and_eq_true, decide_eq_true_eq]
  by_cases h1 : ((x.sub.nodes : Int) ≤ y ∧ cgo n x.sub = true) ∧ (x.sup.nodes : Int) ≤ y - x.sub.nodes ∧ cgo n x.sup = true
  ·rw [if_pos h1, vI_eq n l _ (by omega)]
   obtain ⟨⟨a1, a2⟩, a3, a4⟩ := h1
   by_cases h2 : (consI l).all (cgo n) = true ∧ (sumN (consI l) : Int) ≤ y - x.sub.nodes - x.sup.nodes
   ·rw [if_pos h2, if_pos ⟨⟨a2, a4, h2.1⟩, by omega⟩]; congr 1; omega
   ·rw [if_neg h2, if_neg (fun q => h2 ⟨q.1.2.2, by omega⟩)]
  ·rw [if_neg h1, if_neg (fun q => h1 ⟨⟨by omega, q.1.1⟩, by omega, q.1.2.1⟩)]
theorem vF_eq (n : Nms) : ∀ (l : List Fac) (y : Int), 0 ≤ y → vF n l y = if (l.all (fun x => indOK n x.ind) = true ∧ (consF l).all (cgo n) = true) ∧ (sumN (consF l) : Int) ≤ y then some (y - sumN (consF l)) else none
 | [], y, h => by simp [vF, consF, sumN, h]
 | x :: l, y, h => by
  simp only [vF, consF, sumN, List.all_cons, conG_cgo, Bool.and_eq_true, decide_eq_true_eq]
  by_cases h1 : indOK n x.ind = true ∧ (x.con.nodes : Int) ≤ y ∧ cgo n x.con = true
  ·rw [if_pos h1, vF_eq n l _ (by omega)]
   obtain ⟨a1, a2, a3⟩ := h1
   by_cases h2 : (l.all (fun x => indOK n x.ind) = true ∧ (consF l).all (cgo n) = true) ∧ (sumN (consF l) : Int) ≤ y - x.con.nodes
   ·rw [if_pos h2, if_pos ⟨⟨⟨a1, h2.1.1⟩, a3, h2.1.2⟩, by omega⟩]; congr 1; omega
   ·rw [if_neg h2, if_neg (fun q => h2 ⟨⟨q.1.1.2, q.1.2.2⟩, by omega⟩)]
  ·rw [if_neg h1, if_neg (fun q => h1 ⟨q.1.1.1, by omega, q.1.2.1⟩)]
theorem all_conOK (n : Nms) (l : List Con) (h : sumN l ≤ 400) : l.all (conOK n) = l.all (cgo n) := by
 rw [Bool.eq_iff_iff, List.all_eq_true, List.all_eq_true]
 constructor
 ·intro q c hc; have := q c hc; rw [conOK_cgo, Bool.and_eq_true] at this; exact this.2
 ·intro q c hc; have := sumN_mem hc; rw [conOK_cgo, q c hc, decide_eq_true (by omega)]; rfl
theorem basR_eq (b : Bas) : basR b = basV b := by
 unfold basR basV
 congr 1
 rw [vI_eq b.nms b.incls 400 (by omega)]
 have hs : sumN b.cons = sumN (consI b.incls) + sumN (consF b.facts) := by unfold Bas.cons; rw [sumN_append]
 by_cases h1 : (consI b.incls).all (cgo b.nms) = true ∧ (sumN (consI b.incls) : Int) ≤ 400
 ·rw [if_pos h1]
  simp only
  rw [vF_eq b.nms b.facts _ (by omega)]
  by_cases h2 : (b.facts.all (fun x => indOK b.nms x.ind) = true ∧ (consF b.facts).all (cgo b.nms) = true) ∧ (sumN (consF b.facts) : Int) ≤ 400 - sumN (consI b.incls)
  ·rw [if_pos h2]
   simp only
   have h3 : sumN b.cons ≤ 400 := by omega
   rw [all_conOK _ _ h3, decide_eq_true h3, h2.1.1]
   have : b.cons.all (cgo b.nms) = true := by unfold Bas.cons; rw [List.all_append, h1.1, h2.1.2]; rfl
   rw [this]; simp
  ·rw [if_neg h2]
   simp only [Bool.and_false]
   rw [Bool.eq_false_iff]
   intro q
   simp only [Bool.and_eq_true, decide_eq_true_eq] at q
   obtain ⟨q1, q2, q3, q4, q5⟩ := q
   rw [all_conOK _ _ q5] at q1
   unfold Bas.cons at q1
   rw [List.all_append, Bool.and_eq_true] at q1
   exact h2 ⟨⟨q3, q1.2⟩, by omega⟩
 ·rw [if_neg h1]
  simp only
  rw [Bool.eq_false_iff]
  intro q
  simp only [Bool.and_eq_true, decide_eq_true_eq] at q
  obtain ⟨q1, q2, q3, q4, q5⟩ := q
  rw [all_conOK _ _ q5] at q1
  unfold Bas.cons at q1
  rw [List.all_append, Bool.and_eq_true] at q1
  exact h1 ⟨q1.1, by omega⟩
end
end Go.Proofs.YtcjlpklgnknpgaaGreatDoor.Pg
