/-
  Knowledge bases: validity, as the program tells it.
-/
import Derived.Test.YtnkkeenclhncmaaDoorLg
set_option linter.unusedVariables false
set_option linter.unusedSimpArgs false
set_option maxRecDepth 20000
set_option maxHeartbeats 8000000
namespace Go.Proofs.YtnkkeenclhncmaaDoor.Pg
open Go
variable {m : GM}
structure Bas.ok (b : Bas) : Prop where
  nms : b.nms.ok
  short : b.nms.short
  li : b.incls.length < 1152921504606846976
  lr : b.roles.length < 1152921504606846976
  lf : b.facts.length < 1152921504606846976
  ll : b.links.length < 1152921504606846976
  incls : ∀ x ∈ b.incls, x.sub.ok ∧ x.sup.ok
  roles : ∀ x ∈ b.roles, R64 x.sub ∧ R64 x.sup
  facts : ∀ x ∈ b.facts, R64 x.ind ∧ x.con.ok
  links : ∀ x ∈ b.links, R64 x.role ∧ R64 x.fr ∧ R64 x.to
def Bas.few (b : Bas) : Prop := (∀ x ∈ b.incls, x.sub.nodes ≤ 4000000000 ∧ x.sup.nodes ≤ 4000000000) ∧ ∀ x ∈ b.facts, x.con.nodes ≤ 4000000000
def Bas.count (b : Bas) : Nat := b.incls.length + b.roles.length + b.facts.length + b.links.length
def rolOK (n : Nms) (r : Int) : Bool := decide (0 ≤ r) && decide (r < 2 * n.rs.length)
def indOK (n : Nms) (r : Int) : Bool := decide (0 ≤ r) && decide (r < n.is.length)
def lnkOK (n : Nms) (x : Lnk) : Bool := decide (0 ≤ x.role) && decide (x.role < n.rs.length) && indOK n x.fr && indOK n x.to
/-- Valid one after the other, with so many nodes left. -/
def conG (n : Nms) (c : Con) (y : Int) : Bool := decide ((c.nodes : Int) ≤ y) && decide (c.depth ≤ 20) && shaped n.cs.length n.rs.length c
def vI (n : Nms) : List Inc → Int → Option Int
  | [], y => some y
  | x :: l, y => if conG n x.sub y && conG n x.sup (y - x.sub.nodes) then vI n l (y - x.sub.nodes - x.sup.nodes) else none
def vF (n : Nms) : List Fac → Int → Option Int
  | [], y => some y
  | x :: l, y => if indOK n x.ind && conG n x.con y then vF n l (y - x.con.nodes) else none
def basV (b : Bas) : Bool := namesOK b.nms && decide (b.count ≤ 60) && (match vI b.nms b.incls 400 with
  | none => false
  | some y => b.roles.all (fun x => rolOK b.nms x.sub && rolOK b.nms x.sup) && (match vF b.nms b.facts y with
    | none => false
    | some _ => b.links.all (lnkOK b.nms)))
theorem vld_conG (n : Nms) (c : Con) (y : Int) : (vld n.cs.length n.rs.length c y 1).1 = conG n c y := by
  rw [(vld_eq n.cs.length n.rs.length c y 1).1]
  unfold conG
  congr 2
  exact decide_eq_decide.2 (by omega)
theorem vld_conG2 {n : Nms} {c : Con} {y : Int} (h : conG n c y = true) : (vld n.cs.length n.rs.length c y 1).2 = y - c.nodes := (vld_eq n.cs.length n.rs.length c y 1).2.1 (by rw [vld_conG]; exact h)
theorem conG_le {n : Nms} {c : Con} {y : Int} (h : conG n c y = true) : (c.nodes : Int) ≤ y := by
  unfold conG at h; simp only [Bool.and_eq_true, decide_eq_true_eq] at h; exact h.1.1
def ir55 : IFn := ⟨18, [⟨2, none⟩], (.seq (.reg [oA 1 (.box 66 (.r 0)), oA 2 (.mov (kI 0))]) (.seq (.reg [oA 3 (.fadr 3 (.r 1)), oL 4 3 none, oT 5 4 (.lenl (.r 4)), oA 6 (.fadr 4 (.r 1)), oL 7 6 none, oT 8 7 (.lenl (.r 7)), oA 9 (.bin .add (.r 5) (.r 8)), oA 10 (.fadr 5 (.r 1)), oL 11 10 none, oT 12 11 (.lenl (.r 11)), oA 13 (.bin .add (.r 9) (.r 12)), oA 14 (.fadr 6 (.r 1)), oL 15 14 none, oT 16 15 (.lenl (.r 15)), oA 17 (.bin .add (.r 13) (.r 16)), oA 2 (kM 17)]) .ret))⟩
theorem c55 : cfunc Tryd.prog 55 = some ir55 := by kernel_rfl
theorem k55 : okIR (max 1 ir55.n) ir55.ir = true := by decide +kernel
theorem s_Count (b : Bas) (hb : b.ok) (j : JH) : JC Tryd.prog (GG m) 55 [.agg b.enc] j (RET (I64 b.count) j) := by
  obtain ⟨h1, h2, h3, h4⟩ := (⟨hb.li, hb.lr, hb.lf, hb.ll⟩ : _ ∧ _ ∧ _ ∧ _)
  refine JC.run hmix c55 (by exact k55) ?_
  (try simp only[↓jr,jw,seval,ir55])
  repeat' ((first | refine wq.intro (fun _ => ?_) (fun _ => ?_) | refine ww.intro (fun _ => ?_) (fun _ => ?_) | refine wc.intro (by first | omega | (unfold R64; omega) | trivial) ?_ | refine wr.in (by unfold R64; omega) ?_) <;> first | contradiction | (try simp only[↓jr,jw,seval]))
  refine JFIN.rb ?_
  simp only [Bas.count, Int.natCast_add]; exact SubB.v
theorem JC.closed {G : Nat → Option (List AV)} {f : FuncId} {args : List AV} {j : JH} {Q : AOut → JH → Prop} (h : JC Tryd.prog G f args j Q) : JC Tryd.prog G f args j Q := h
def ir76 : IFn := ⟨15, [⟨3, none⟩], (.seq (.reg [oA 3 (.mov (kB false))]) (.seq (.reg [oA 4 (kM 0), oA 5 (.bin .geq (.r 4) (kI 0)), oA 6 (kM 5), ⟨(some 7), (some ((6, true))), none, (kM 0)⟩, ⟨(some 8), (some ((6, true))), none, (.fadr 0 (.r 1))⟩, ⟨(some 9), (some ((6, true))), none, (.fadr 1 (.r 8))⟩, ⟨(some 10), (some ((6, true))), (some (.r 9)), (.load none (.r 9))⟩, ⟨(some 11), (some ((6, true))), (some (.r 10)), (.lenl (.r 10))⟩, ⟨(some 12), (some ((6, true))), none, (.bin .mul (kI 2) (.r 11))⟩, ⟨(some 13), (some ((6, true))), none, (.bin .lss (.r 7) (.r 12))⟩, oA 14 (.pick (.r 6) (.r 13) (kB false)), oA 3 (kM 14)]) .ret))⟩
theorem c76 : cfunc Tryd.prog 76 = some ir76 := by kernel_rfl
theorem k76 : okIR (max 2 ir76.n) ir76.ir = true := by decide +kernel
theorem s_Valid1 (b : Bas) (hb : b.ok) (r : Int) (o : Nat) (t : TypeId) (j : JH) (ho : o < j.next) (hg : j.get o = some (.cells t b.enc)) : JC Tryd.prog (GG m) 76 [I64 r, .ptr o 0] j (RET (BOO (rolOK b.nms r)) j) := by
  obtain ⟨h1, h2, h3⟩ := hb.nms
  refine JC.run hmix c76 (by exact k76) ?_
  (try simp only[↓jr,jw,seval,ext_get_old,ho,hg,ir76])
  repeat' ((first | refine wq.intro (fun _ => ?_) (fun _ => ?_) | refine ww.intro (fun _ => ?_) (fun _ => ?_) | refine wc.intro (by first | omega | (unfold R64; omega) | trivial) ?_ | refine wr.in (by unfold R64; omega) ?_) <;> first | contradiction | (try simp only[↓jr,jw,seval,ext_get_old,ho,hg]))
  all_goals
    refine JFIN.rb ?_
    unfold rolOK
    simp only [*, decide_true, Bool.true_and, decide_false, Bool.false_and]
    exact SubB.v
def ir77 : IFn := ⟨14, [⟨3, none⟩], (.seq (.reg [oA 3 (.mov (kB false))]) (.seq (.reg [oA 4 (kM 0), oA 5 (.bin .geq (.r 4) (kI 0)), oA 6 (kM 5), ⟨(some 7), (some ((6, true))), none, (kM 0)⟩, ⟨(some 8), (some ((6, true))), none, (.fadr 0 (.r 1))⟩, ⟨(some 9), (some ((6, true))), none, (.fadr 2 (.r 8))⟩, ⟨(some 10), (some ((6, true))), (some (.r 9)), (.load none (.r 9))⟩, ⟨(some 11), (some ((6, true))), (some (.r 10)), (.lenl (.r 10))⟩, ⟨(some 12), (some ((6, true))), none, (.bin .lss (.r 7) (.r 11))⟩, oA 13 (.pick (.r 6) (.r 12) (kB false)), oA 3 (kM 13)]) .ret))⟩
theorem c77 : cfunc Tryd.prog 77 = some ir77 := by kernel_rfl
theorem k77 : okIR (max 2 ir77.n) ir77.ir = true := by decide +kernel
theorem s_Valid2 (b : Bas) (hb : b.ok) (r : Int) (o : Nat) (t : TypeId) (j : JH) (ho : o < j.next) (hg : j.get o = some (.cells t b.enc)) : JC Tryd.prog (GG m) 77 [I64 r, .ptr o 0] j (RET (BOO (indOK b.nms r)) j) := by
  obtain ⟨h1, h2, h3⟩ := hb.nms
  refine JC.run hmix c77 (by exact k77) ?_
  (try simp only[↓jr,jw,seval,ext_get_old,ho,hg,ir77])
  repeat' ((first | refine wq.intro (fun _ => ?_) (fun _ => ?_) | refine ww.intro (fun _ => ?_) (fun _ => ?_) | refine wc.intro (by first | omega | (unfold R64; omega) | trivial) ?_ | refine wr.in (by unfold R64; omega) ?_) <;> first | contradiction | (try simp only[↓jr,jw,seval,ext_get_old,ho,hg]))
  all_goals
    refine JFIN.rb ?_
    unfold indOK
    simp only [*, decide_true, Bool.true_and, decide_false, Bool.false_and]
    exact SubB.v
theorem hb93 : hasBody Tryd.prog 76 = true := by decide +kernel
theorem hb94 : hasBody Tryd.prog 77 = true := by decide +kernel
def ir54 : IFn := ⟨130, [⟨2, none⟩], (.seq (.reg [oA 1 (.box 66 (.r 0)), oA 2 (.mov (kB false))]) (.seq (.seq (.reg [oA 14 (.fadr 0 (.r 1)), oL 15 14 (some 3), oT 16 15 (.call 42 [.r 15]), oA 17 (.not (.r 16)), oA 18 (kM 17), ⟨(some 19), (some ((18, false))), (some (.r 1)), (.load (some 7) (.r 1))⟩, ⟨(some 20), (some ((18, false))), (some (.r 19)), (.call 55 [.r 19])⟩, ⟨(some 21), (some ((18, false))), none, (.bin .gtr (.r 20) (kI 60))⟩, oA 22 (.pick (.r 18) (kB true) (.r 21))]) (.cond (.r 22) (.seq (.reg [oA 2 (.mov (kB false))]) .ret) .skip)) (.seq (.reg [oA 3 (.alloc 3 [.v (.int .i64 0)]), oN (.store 1 (.r 3) (kI 400))]) (.seq (.seq (.reg [oA 23 (.fadr 3 (.r 1)), oL 24 23 none, oT 25 24 (.lenl (.r 24)), oA 26 (.mov (kI 0))]) (.block 0 (.loop (.seq (.reg [oA 27 (.bin .lss (.r 26) (.r 25))]) (.seq (.cond (.r 27) .skip (.exit 0)) (.seq (.block 1 (.seq (.reg [oA 28 (.iasl 6 (.r 24) (.r 26)), oL 29 28 (some 6), oA 5 (.alloc 92 [.v (.int .i64 0), .v (.int .i64 0), .sl .nil 0 [], .v (.int .i64 0), .v (.int .i64 0), .sl .nil 0 []]), oN (.store 6 (.r 5) (.r 29))]) (.seq (.reg [oA 30 (.fadr 0 (.r 1)), oL 31 30 (some 3), oA 32 (.fadr 0 (.r 5)), oL 33 32 (some 3), oA 34 (.call 58 [.r 31, .r 33, .r 3]), oA 35 (.not (.r 34)), oA 36 (kM 35), ⟨(some 37), (some ((36, false))), none, (.fadr 0 (.r 1))⟩, ⟨(some 38), (some ((36, false))), (some (.r 37)), (.load (some 3) (.r 37))⟩, ⟨(some 39), (some ((36, false))), none, (.fadr 3 (.r 5))⟩, ⟨(some 40), (some ((36, false))), (some (.r 39)), (.load (some 3) (.r 39))⟩, ⟨(some 41), (some ((36, false))), none, (.call 58 [.r 38, .r 40, .r 3])⟩, ⟨(some 42), (some ((36, false))), none, (.not (.r 41))⟩, oA 43 (.pick (.r 36) (kB true) (.r 42))]) (.cond (.r 43) (.seq (.reg [oA 2 (.mov (kB false))]) .ret) .skip)))) (.reg [oA 44 (.bin .add (.r 26) (kI 1)), oA 26 (kM 44)]))))))) (.seq (.reg [oA 45 (.mkf (.func 76) [] [.r 1]), oA 6 (kM 45)]) (.seq (.reg [oA 46 (.mkf (.func 77) [] [.r 1]), oA 7 (kM 46)]) (.seq (.seq (.reg [oA 47 (.fadr 4 (.r 1)), oL 48 47 none, oT 49 48 (.lenl (.r 48)), oA 50 (.mov (kI 0))]) (.block 2 (.loop (.seq (.reg [oA 51 (.bin .lss (.r 50) (.r 49))]) (.seq (.cond (.r 51) .skip (.exit 2)) (.seq (.block 3 (.seq (.reg [oA 52 (.iasl 2 (.r 48) (.r 50)), oL 53 52 (some 2), oA 9 (.alloc 100 [.v (.int .i64 0), .v (.int .i64 0)]), oN (.store 2 (.r 9) (.r 53))]) (.seq (.reg [oA 54 (kM 6), oA 55 (.fadr 0 (.r 9)), oL 56 55 none, oT 57 56 (.callv (.r 54) [.r 56]), oA 58 (.not (.r 57)), oA 59 (kM 58), ⟨(some 60), (some ((59, false))), none, (kM 6)⟩, ⟨(some 61), (some ((59, false))), none, (.fadr 1 (.r 9))⟩, ⟨(some 62), (some ((59, false))), (some (.r 61)), (.load none (.r 61))⟩, ⟨(some 63), (some ((59, false))), (some (.r 62)), (.callv (.r 60) [.r 62])⟩, ⟨(some 64), (some ((59, false))), none, (.not (.r 63))⟩, oA 65 (.pick (.r 59) (kB true) (.r 64))]) (.cond (.r 65) (.seq (.reg [oA 2 (.mov (kB false))]) .ret) .skip)))) (.reg [oA 66 (.bin .add (.r 50) (kI 1)), oA 50 (kM 66)]))))))) (.seq (.seq (.reg [oA 67 (.fadr 5 (.r 1)), oL 68 67 none, oT 69 68 (.lenl (.r 68)), oA 70 (.mov (kI 0))]) (.block 4 (.loop (.seq (.reg [oA 71 (.bin .lss (.r 70) (.r 69))]) (.seq (.cond (.r 71) .skip (.exit 4)) (.seq (.block 5 (.seq (.reg [oA 72 (.iasl 4 (.r 68) (.r 70)), oL 73 72 (some 4), oA 11 (.alloc 94 [.v (.int .i64 0), .v (.int .i64 0), .v (.int .i64 0), .sl .nil 0 []]), oN (.store 4 (.r 11) (.r 73))]) (.seq (.reg [oA 74 (kM 7), oA 75 (.fadr 0 (.r 11)), oL 76 75 none, oT 77 76 (.callv (.r 74) [.r 76]), oA 78 (.not (.r 77)), oA 79 (kM 78), ⟨(some 80), (some ((79, false))), none, (.fadr 0 (.r 1))⟩, ⟨(some 81), (some ((79, false))), (some (.r 80)), (.load (some 3) (.r 80))⟩, ⟨(some 82), (some ((79, false))), none, (.fadr 1 (.r 11))⟩, ⟨(some 83), (some ((79, false))), (some (.r 82)), (.load (some 3) (.r 82))⟩, ⟨(some 84), (some ((79, false))), none, (.call 58 [.r 81, .r 83, .r 3])⟩, ⟨(some 85), (some ((79, false))), none, (.not (.r 84))⟩, oA 86 (.pick (.r 79) (kB true) (.r 85))]) (.cond (.r 86) (.seq (.reg [oA 2 (.mov (kB false))]) .ret) .skip)))) (.reg [oA 87 (.bin .add (.r 70) (kI 1)), oA 70 (kM 87)]))))))) (.seq (.seq (.reg [oA 88 (.fadr 6 (.r 1)), oL 89 88 none, oT 90 89 (.lenl (.r 89)), oA 91 (.mov (kI 0))]) (.block 6 (.loop (.seq (.reg [oA 92 (.bin .lss (.r 91) (.r 90))]) (.seq (.cond (.r 92) .skip (.exit 6)) (.seq (.block 7 (.seq (.reg [oA 93 (.iasl 3 (.r 89) (.r 91)), oL 94 93 (some 3), oA 13 (.alloc 102 [.v (.int .i64 0), .v (.int .i64 0), .v (.int .i64 0)]), oN (.store 3 (.r 13) (.r 94))]) (.seq (.reg [oA 95 (.fadr 0 (.r 13)), oL 96 95 none, oA 97 (.bin .lss (.r 96) (kI 0)), oA 98 (kM 97), ⟨(some 99), (some ((98, false))), none, (kM 6)⟩, ⟨(some 100), (some ((98, false))), none, (.fadr 0 (.r 13))⟩, ⟨(some 101), (some ((98, false))), (some (.r 100)), (.load none (.r 100))⟩, ⟨(some 102), (some ((98, false))), none, (.bin .mul (kI 2) (.r 101))⟩, ⟨(some 103), (some ((98, false))), (some (.r 102)), (.callv (.r 99) [.r 102])⟩, ⟨(some 104), (some ((98, false))), none, (.not (.r 103))⟩, oA 105 (.pick (.r 98) (kB true) (.r 104)), oA 106 (kM 105), ⟨(some 107), (some ((106, false))), none, (.fadr 0 (.r 13))⟩, ⟨(some 108), (some ((106, false))), (some (.r 107)), (.load none (.r 107))⟩, ⟨(some 109), (some ((106, false))), none, (.fadr 0 (.r 1))⟩, ⟨(some 110), (some ((106, false))), none, (.fadr 1 (.r 109))⟩, ⟨(some 111), (some ((106, false))), (some (.r 110)), (.load none (.r 110))⟩, ⟨(some 112), (some ((106, false))), (some (.r 111)), (.lenl (.r 111))⟩, ⟨(some 113), (some ((106, false))), none, (.bin .geq (.r 108) (.r 112))⟩, oA 114 (.pick (.r 106) (kB true) (.r 113)), oA 115 (kM 114), ⟨(some 116), (some ((115, false))), none, (kM 7)⟩, ⟨(some 117), (some ((115, false))), none, (.fadr 1 (.r 13))⟩, ⟨(some 118), (some ((115, false))), (some (.r 117)), (.load none (.r 117))⟩, ⟨(some 119), (some ((115, false))), (some (.r 118)), (.callv (.r 116) [.r 118])⟩, ⟨(some 120), (some ((115, false))), none, (.not (.r 119))⟩, oA 121 (.pick (.r 115) (kB true) (.r 120)), oA 122 (kM 121), ⟨(some 123), (some ((122, false))), none, (kM 7)⟩, ⟨(some 124), (some ((122, false))), none, (.fadr 2 (.r 13))⟩, ⟨(some 125), (some ((122, false))), (some (.r 124)), (.load none (.r 124))⟩, ⟨(some 126), (some ((122, false))), (some (.r 125)), (.callv (.r 123) [.r 125])⟩, ⟨(some 127), (some ((122, false))), none, (.not (.r 126))⟩, oA 128 (.pick (.r 122) (kB true) (.r 127))]) (.cond (.r 128) (.seq (.reg [oA 2 (.mov (kB false))]) .ret) .skip)))) (.reg [oA 129 (.bin .add (.r 91) (kI 1)), oA 91 (kM 129)]))))))) (.seq (.reg [oA 2 (.mov (kB true))]) .ret))))))))))⟩
theorem c54 : cfunc Tryd.prog 54 = some ir54 := by kernel_rfl
theorem k54 : okIR (max 1 ir54.n) ir54.ir = true := by decide +kernel
theorem s_kbValid (b : Bas) (hb : b.ok) (hf : b.few) (j : JH) : JC Tryd.prog (GG m) 54 [.agg b.enc] j (RET (BOO (basV b)) j) := by
  have fls : ∀ {l : List AObj}, basV b = false → @JFIN (ext j []) (ext j l) (.v (.bool false)) ⟨fun y j' => RET (BOO (basV b)) j (.ret y) j'⟩ := by
    intro l h
    refine JFIN.rb ?_
    rw [h]; exact SubB.v
  obtain ⟨n1, n2, n3⟩ := hb.nms
  have l1 := hb.li
  have l2 := hb.lr
  have l3 := hb.lf
  have l4 := hb.ll
  refine JC.run hmix c54 (by exact k54) ?_
  (try simp only[↓jr,jw,seval,ir54])
  refine JCs.ret (s_ValidNames b.nms hb.nms hb.short _) ?_
  (try simp only[↓jr,jw,seval])
  refine ww.intro (fun g1 => ?_) (fun g1 => by (try simp only[↓jr,jw,seval]); exact fls (by unfold basV; rw [g1]; rfl))
  (try simp only[↓jr,jw,seval])
  refine JCs.ret (s_Count b hb _) ?_
  (try simp only[↓jr,jw,seval])
  refine wq.intro (fun g2 => by (try simp only[↓jr,jw,seval]); exact fls (by unfold basV; rw [decide_eq_false (by omega), Bool.and_false, Bool.false_and])) (fun g2 => ?_)
  (try simp only[↓jr,jw,seval])
  have hB : basV b = (match vI b.nms b.incls 400 with
      | none => false
      | some y => b.roles.all (fun x => rolOK b.nms x.sub && rolOK b.nms x.sup) && (match vF b.nms b.facts y with
        | none => false
        | some _ => b.links.all (lnkOK b.nms))) := by
    unfold basV; rw [g1, decide_eq_true (by omega)]; rfl
  refine JLOOP.of (σ := Nat × Int) (fun s => s.1 ≤ (b.incls).length ∧ 0 ≤ s.2 ∧ s.2 ≤ 400 ∧ vI b.nms (b.incls.drop s.1) s.2 = vI b.nms b.incls 400) (fun s => (b.incls).length - s.1) (fun s => [(26, I64 s.1), (25, I64 b.incls.length), (24, .sl .none b.incls.length (encs Inc.enc b.incls)), (1, .ptr (pid j.next 0) 0), (3, .ptr (pid j.next 1) 0)]) (fun s => ext j [.cells 66 b.enc, .cells 3 [I64 s.2]]) (0, 400) ⟨Nat.zero_le _, ?_⟩ ?_ (JDropH.refl _) ?_
  · exact ⟨by decide, by decide, rfl⟩
  · ((try simp only[↓jr,jw,seval,DL]) <;> exact sbq)
  rintro ⟨k, y⟩ ⟨hk, hI⟩
  try simp only at hk hI
  (try simp only[↓jr,jw,seval])
  refine wq.intro (fun h1 => ?_) (fun h1 => ?_)
  · obtain ⟨hy0, hy1, hI⟩ := hI
    have hlt : k < (b.incls).length := by omega
    obtain ⟨x, r, hd⟩ : ∃ c_ l_, List.drop k (b.incls) = c_ :: l_ := ⟨_, _, List.drop_eq_getElem_cons hlt⟩
    have hd1 : List.drop (k + 1) (b.incls) = r := by rw [← List.drop_drop, hd]; rfl
    have hmem : x ∈ b.incls := List.mem_of_mem_drop (hd ▸ List.mem_cons_self)
    (try simp only[↓jr,jw,seval,hd])
    refine wc.intro (by omega) ?_
    (try simp only[↓jr,jw,seval,hd])
    rw [hd] at hI
    simp only [vI] at hI
    obtain ⟨k1, k2⟩ := hb.incls x hmem
    obtain ⟨f1, f2⟩ := hf.1 x hmem
    refine JCs.ret (s_Valid b.nms hb.nms 3 x.sub (pid j.next 1) y (ext j [.cells 66 b.enc, .cells 3 [I64 y], .cells 92 x.enc]) k1 (by rw [ext_next]; unfold pid; simp) (by (try simp only[↓jr,jw,seval])) (by omega) (by omega)) ?_
    (try simp only[↓jr,jw,seval])
    rw [vld_conG]
    refine ww.intro (fun c1 => ?_) (fun c1 => by (try simp only[↓jr,jw,seval]); exact fls (by rw [hB, ← hI, c1]; rfl))
    (try simp only[↓jr,jw,seval])
    rw [vld_conG2 c1]
    have c1' := conG_le c1
    refine JCs.ret (s_Valid b.nms hb.nms 3 x.sup (pid j.next 1) (y - x.sub.nodes) (ext j [.cells 66 b.enc, .cells 3 [I64 (y - x.sub.nodes)], .cells 92 x.enc]) k2 (by rw [ext_next]; unfold pid; simp) (by (try simp only[↓jr,jw,seval])) (by omega) (by omega)) ?_
    (try simp only[↓jr,jw,seval])
    rw [vld_conG]
    refine ww.intro (fun c2 => ?_) (fun c2 => by (try simp only[↓jr,jw,seval]); exact fls (by rw [hB, ← hI, c1, c2]; rfl))
    (try simp only[↓jr,jw,seval])
    rw [vld_conG2 c2]
    have c2' := conG_le c2
    rw [c1, c2] at hI
    refine wc.intro (R64_add hlt (by omega)) ?_; (try simp only[↓jr,jw,seval])
    refine JNEXT.of (k + 1, y - x.sub.nodes - x.sup.nodes) ⟨by simp only; omega, by simp only; omega, by simp only; omega, by simp only [hd1]; exact hI⟩ (by simp only; omega) ?_ (JDropH.next0 (TokExt.refl _) ⟨.inl ⟨rfl, rfl⟩, .inr (OSub.pure rfl), trivial⟩)
    ((try simp only[↓jr,jw,seval,DL]) <;> exact sbq)
  obtain ⟨hy0, hy1, hI⟩ := hI
  (try simp only[↓jr,jw,seval])
  rw [List.drop_eq_nil_of_le (by omega)] at hI
  simp only [vI] at hI
  rw [← hI] at hB
  simp only at hB
  clear hI h1 hk
  refine JLOOP.of (σ := Nat) (fun s => s ≤ (b.roles).length ∧ ((b.roles.drop s).all (fun x => rolOK b.nms x.sub && rolOK b.nms x.sup)) = b.roles.all (fun x => rolOK b.nms x.sub && rolOK b.nms x.sup)) (fun s => (b.roles).length - s) (fun s => [(50, I64 s), (49, I64 b.roles.length), (48, .sl .none b.roles.length (encs RIn.enc b.roles)), (1, .ptr (pid j.next 0) 0), (3, .ptr (pid j.next 1) 0), (6, .fn (.func 76) [] [.ptr (pid j.next 0) 0]), (7, .fn (.func 77) [] [.ptr (pid j.next 0) 0])]) (fun s => ext j [.cells 66 b.enc, .cells 3 [I64 y]]) 0 ⟨Nat.zero_le _, ?_⟩ ?_ (JDropH.refl _) ?_
  · rfl
  · ((try simp only[↓jr,jw,seval,DL]) <;> exact sbq)
  rintro k ⟨hk, hI⟩
  try simp only at hk hI
  (try simp only[↓jr,jw,seval])
  refine wq.intro (fun h1 => ?_) (fun h1 => ?_)
  · have hlt : k < (b.roles).length := by omega
    obtain ⟨x, r, hd⟩ : ∃ c_ l_, List.drop k (b.roles) = c_ :: l_ := ⟨_, _, List.drop_eq_getElem_cons hlt⟩
    have hd1 : List.drop (k + 1) (b.roles) = r := by rw [← List.drop_drop, hd]; rfl
    have hmem : x ∈ b.roles := List.mem_of_mem_drop (hd ▸ List.mem_cons_self)
    (try simp only[↓jr,jw,seval,hd])
    refine wc.intro (by omega) ?_
    (try simp only[↓jr,jw,seval,hd])
    rw [hd] at hI
    rw [List.all_cons] at hI
    refine wc.intro hb93 ?_
    (try simp only[↓jr,jw,seval])
    refine JCs.ret (s_Valid1 b hb x.sub (pid j.next 0) 66 (ext j [.cells 66 b.enc, .cells 3 [I64 y], .cells 100 x.enc]) (by rw [ext_next]; unfold pid; simp) (by (try simp only[↓jr,jw,seval]))) ?_
    (try simp only[↓jr,jw,seval])
    refine ww.intro (fun c1 => ?_) (fun c1 => by (try simp only[↓jr,jw,seval]); exact fls (by rw [hB, ← hI, c1]; rfl))
    (try simp only[↓jr,jw,seval])
    refine wc.intro hb93 ?_
    (try simp only[↓jr,jw,seval])
    refine JCs.ret (s_Valid1 b hb x.sup (pid j.next 0) 66 (ext j [.cells 66 b.enc, .cells 3 [I64 y], .cells 100 x.enc]) (by rw [ext_next]; unfold pid; simp) (by (try simp only[↓jr,jw,seval]))) ?_
    (try simp only[↓jr,jw,seval])
    refine ww.intro (fun c2 => ?_) (fun c2 => by (try simp only[↓jr,jw,seval]); exact fls (by rw [hB, ← hI, c1, c2]; rfl))
    (try simp only[↓jr,jw,seval])
    rw [c1, c2] at hI
    refine wc.intro (R64_add hlt (by omega)) ?_; (try simp only[↓jr,jw,seval])
    refine JNEXT.of (k + 1) ⟨by omega, by rw [hd1]; exact hI⟩ (by omega) ?_ JDropH.nx
    ((try simp only[↓jr,jw,seval,DL]) <;> exact sbq)
  (try simp only[↓jr,jw,seval])
  rw [List.drop_eq_nil_of_le (by omega), List.all_nil] at hI
  rw [← hI, Bool.true_and] at hB
  clear hI h1 hk
  refine JLOOP.of (σ := Nat × Int) (fun s => s.1 ≤ (b.facts).length ∧ 0 ≤ s.2 ∧ s.2 ≤ 400 ∧ vF b.nms (b.facts.drop s.1) s.2 = vF b.nms b.facts y) (fun s => (b.facts).length - s.1) (fun s => [(70, I64 s.1), (69, I64 b.facts.length), (68, .sl .none b.facts.length (encs Fac.enc b.facts)), (1, .ptr (pid j.next 0) 0), (3, .ptr (pid j.next 1) 0), (6, .fn (.func 76) [] [.ptr (pid j.next 0) 0]), (7, .fn (.func 77) [] [.ptr (pid j.next 0) 0])]) (fun s => ext j [.cells 66 b.enc, .cells 3 [I64 s.2]]) (0, y) ⟨Nat.zero_le _, ?_⟩ ?_ (JDropH.refl _) ?_
  · exact ⟨hy0, hy1, rfl⟩
  · ((try simp only[↓jr,jw,seval,DL]) <;> exact sbq)
  rintro ⟨k, z⟩ ⟨hk, hI⟩
  try simp only at hk hI
  (try simp only[↓jr,jw,seval])
  refine wq.intro (fun h1 => ?_) (fun h1 => ?_)
  · obtain ⟨hz0, hz1, hI⟩ := hI
    have hlt : k < (b.facts).length := by omega
    obtain ⟨x, r, hd⟩ : ∃ c_ l_, List.drop k (b.facts) = c_ :: l_ := ⟨_, _, List.drop_eq_getElem_cons hlt⟩
    have hd1 : List.drop (k + 1) (b.facts) = r := by rw [← List.drop_drop, hd]; rfl
    have hmem : x ∈ b.facts := List.mem_of_mem_drop (hd ▸ List.mem_cons_self)
    (try simp only[↓jr,jw,seval,hd])
    refine wc.intro (by omega) ?_
    (try simp only[↓jr,jw,seval,hd])
    rw [hd] at hI
    simp only [vF] at hI
    obtain ⟨k1, k2⟩ := hb.facts x hmem
    have f1 := hf.2 x hmem
    refine wc.intro hb94 ?_
    (try simp only[↓jr,jw,seval])
    refine JCs.ret (s_Valid2 b hb x.ind (pid j.next 0) 66 (ext j [.cells 66 b.enc, .cells 3 [I64 z], .cells 94 x.enc]) (by rw [ext_next]; unfold pid; simp) (by (try simp only[↓jr,jw,seval]))) ?_
    (try simp only[↓jr,jw,seval])
    refine ww.intro (fun c1 => ?_) (fun c1 => by (try simp only[↓jr,jw,seval]); exact fls (by rw [hB, ← hI, c1]; rfl))
    (try simp only[↓jr,jw,seval])
    refine JCs.ret (s_Valid b.nms hb.nms 3 x.con (pid j.next 1) z (ext j [.cells 66 b.enc, .cells 3 [I64 z], .cells 94 x.enc]) k2 (by rw [ext_next]; unfold pid; simp) (by (try simp only[↓jr,jw,seval])) (by omega) (by omega)) ?_
    (try simp only[↓jr,jw,seval])
    rw [vld_conG]
    refine ww.intro (fun c2 => ?_) (fun c2 => by (try simp only[↓jr,jw,seval]); exact fls (by rw [hB, ← hI, c1, c2]; rfl))
    (try simp only[↓jr,jw,seval])
    rw [vld_conG2 c2]
    have c2' := conG_le c2
    rw [c1, c2] at hI
    refine wc.intro (R64_add hlt (by omega)) ?_; (try simp only[↓jr,jw,seval])
    refine JNEXT.of (k + 1, z - x.con.nodes) ⟨by simp only; omega, by simp only; omega, by simp only; omega, by simp only [hd1]; exact hI⟩ (by simp only; omega) ?_ (JDropH.next0 (TokExt.refl _) ⟨.inl ⟨rfl, rfl⟩, .inr (OSub.pure rfl), trivial⟩)
    ((try simp only[↓jr,jw,seval,DL]) <;> exact sbq)
  obtain ⟨hz0, hz1, hI⟩ := hI
  (try simp only[↓jr,jw,seval])
  rw [List.drop_eq_nil_of_le (by omega)] at hI
  simp only [vF] at hI
  rw [← hI] at hB
  simp only at hB
  clear hI h1 hk
  refine JLOOP.of (σ := Nat) (fun s => s ≤ (b.links).length ∧ (b.links.drop s).all (lnkOK b.nms) = b.links.all (lnkOK b.nms)) (fun s => (b.links).length - s) (fun s => [(91, I64 s), (90, I64 b.links.length), (89, .sl .none b.links.length (encs Lnk.enc b.links)), (1, .ptr (pid j.next 0) 0), (3, .ptr (pid j.next 1) 0), (6, .fn (.func 76) [] [.ptr (pid j.next 0) 0]), (7, .fn (.func 77) [] [.ptr (pid j.next 0) 0])]) (fun s => ext j [.cells 66 b.enc, .cells 3 [I64 z]]) 0 ⟨Nat.zero_le _, ?_⟩ ?_ (JDropH.refl _) ?_
  · rfl
  · ((try simp only[↓jr,jw,seval,DL]) <;> exact sbq)
  rintro k ⟨hk, hI⟩
  try simp only at hk hI
  (try simp only[↓jr,jw,seval])
  refine wq.intro (fun h1 => ?_) (fun h1 => ?_)
  · have hlt : k < (b.links).length := by omega
    obtain ⟨x, r, hd⟩ : ∃ c_ l_, List.drop k (b.links) = c_ :: l_ := ⟨_, _, List.drop_eq_getElem_cons hlt⟩
    have hd1 : List.drop (k + 1) (b.links) = r := by rw [← List.drop_drop, hd]; rfl
    have hmem : x ∈ b.links := List.mem_of_mem_drop (hd ▸ List.mem_cons_self)
    (try simp only[↓jr,jw,seval,hd])
    refine wc.intro (by omega) ?_
    (try simp only[↓jr,jw,seval,hd])
    rw [hd] at hI
    rw [List.all_cons] at hI
    obtain ⟨k1, k2, k3⟩ := hb.links x hmem
    have bad : lnkOK b.nms x = false → basV b = false := fun q => by rw [hB, ← hI, q]; rfl
    have bad1 : ¬ (0 ≤ x.role ∧ x.role < b.nms.rs.length) → basV b = false := by
      intro q
      refine bad ?_
      rw [Bool.eq_false_iff]
      intro h
      unfold lnkOK at h
      simp only [Bool.and_eq_true, decide_eq_true_eq] at h
      exact q ⟨h.1.1.1, h.1.1.2⟩
    refine wq.intro (fun c0 => by (try simp only[↓jr,jw,seval]); exact fls (bad1 (by omega))) (fun c0 => ?_)
    (try simp only[↓jr,jw,seval])
    have tl : 0 ≤ x.role ∧ x.role < b.nms.rs.length → (indOK b.nms x.fr && indOK b.nms x.to) = lnkOK b.nms x := by
      intro q; unfold lnkOK; rw [decide_eq_true q.1, decide_eq_true q.2]; rfl
    by_cases hbig : x.role ≤ 4611686018427387903
    · refine wr.in (by unfold R64; omega) ?_
      (try simp only[↓jr,jw,seval])
      refine wc.intro hb93 ?_
      (try simp only[↓jr,jw,seval])
      refine JCs.ret (s_Valid1 b hb (2 * x.role) (pid j.next 0) 66 (ext j [.cells 66 b.enc, .cells 3 [I64 z], .cells 102 x.enc]) (by rw [ext_next]; unfold pid; simp) (by (try simp only[↓jr,jw,seval]))) ?_
      (try simp only[↓jr,jw,seval])
      refine ww.intro (fun c1 => ?_) (fun c1 => by (try simp only[↓jr,jw,seval]); exact fls (bad1 (by unfold rolOK at c1; rintro ⟨q1, q2⟩; rw [decide_eq_true (by omega), decide_eq_true (by omega)] at c1; cases c1)))
      (try simp only[↓jr,jw,seval])
      refine wq.intro (fun c2 => by (try simp only[↓jr,jw,seval]); exact fls (bad1 (by omega))) (fun c2 => ?_)
      (try simp only[↓jr,jw,seval])
      refine wc.intro hb94 ?_
      (try simp only[↓jr,jw,seval])
      refine JCs.ret (s_Valid2 b hb x.fr (pid j.next 0) 66 (ext j [.cells 66 b.enc, .cells 3 [I64 z], .cells 102 x.enc]) (by rw [ext_next]; unfold pid; simp) (by (try simp only[↓jr,jw,seval]))) ?_
      (try simp only[↓jr,jw,seval])
      have tl' := tl ⟨by omega, by omega⟩
      refine ww.intro (fun c3 => ?_) (fun c3 => by (try simp only[↓jr,jw,seval]); exact fls (bad (by rw [← tl', c3]; rfl)))
      (try simp only[↓jr,jw,seval])
      refine wc.intro hb94 ?_
      (try simp only[↓jr,jw,seval])
      refine JCs.ret (s_Valid2 b hb x.to (pid j.next 0) 66 (ext j [.cells 66 b.enc, .cells 3 [I64 z], .cells 102 x.enc]) (by rw [ext_next]; unfold pid; simp) (by (try simp only[↓jr,jw,seval]))) ?_
      (try simp only[↓jr,jw,seval])
      refine ww.intro (fun c4 => ?_) (fun c4 => by (try simp only[↓jr,jw,seval]); exact fls (bad (by rw [← tl', c3, c4]; rfl)))
      (try simp only[↓jr,jw,seval])
      rw [← tl', c3, c4] at hI
      refine wc.intro (R64_add hlt (by omega)) ?_; (try simp only[↓jr,jw,seval])
      refine JNEXT.of (k + 1) ⟨by omega, by rw [hd1]; exact hI⟩ (by omega) ?_ JDropH.nx
      ((try simp only[↓jr,jw,seval,DL]) <;> exact sbq)
    · refine wr.any ?_
      (try simp only[↓jr,jw,seval])
      refine wc.intro hb93 ?_
      (try simp only[↓jr,jw,seval])
      refine JCs.ret (s_Valid1 b hb _ (pid j.next 0) 66 (ext j [.cells 66 b.enc, .cells 3 [I64 z], .cells 102 x.enc]) (by rw [ext_next]; unfold pid; simp) (by (try simp only[↓jr,jw,seval]))) ?_
      (try simp only[↓jr,jw,seval])
      refine ww.intro (fun c1 => ?_) (fun c1 => by (try simp only[↓jr,jw,seval]); exact fls (bad1 (by omega)))
      (try simp only[↓jr,jw,seval])
      refine wq.intro (fun c2 => by (try simp only[↓jr,jw,seval]); exact fls (bad1 (by omega))) (fun c2 => ?_)
      exact absurd c2 (by omega)
  (try simp only[↓jr,jw,seval])
  rw [List.drop_eq_nil_of_le (by omega), List.all_nil] at hI
  refine JFIN.rb ?_
  rw [hB, ← hI]; exact SubB.v
end Go.Proofs.YtnkkeenclhncmaaDoor.Pg
