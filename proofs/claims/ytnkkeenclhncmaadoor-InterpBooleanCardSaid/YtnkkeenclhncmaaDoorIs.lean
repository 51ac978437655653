/-
  The statement about Boolean combinations and quantified concepts.
-/
import Derived.Test.YtnkkeenclhncmaaDoorIr
set_option linter.unusedVariables false
set_option linter.unusedSimpArgs false
set_option maxRecDepth 100000
set_option maxHeartbeats 8000000
namespace Go.Proofs.YtnkkeenclhncmaaDoor.Pg
open Go
theorem any_rel {i : Itp} (hi : i.wf) {r : Int} (h0 : 0 ≤ r) (h1 : r < 2 * (i.rols.length : Int)) (g : Int × Int → Bool) : (relL i r).any g = (rolI i r).any fun p => g (frP r p, toP r p) := by
  obtain ⟨e1, _, _⟩ := sz_size hi
  have hr := hi.r _ (rolI_mem h0 h1)
  unfold relL frP toP
  by_cases hm : r.tmod 2 = 0
  · simp only [hm, if_true]
  · simp only [hm, if_false]
    rw [Bool.eq_iff_iff, List.any_eq_true, List.any_eq_true]
    constructor
    · rintro ⟨q, hq, hg⟩
      obtain ⟨p, hp, rfl⟩ := (invI_mem fun p hp => by have := hr p hp; omega).1 hq
      exact ⟨p, hp, hg⟩
    · rintro ⟨p, hp, hg⟩
      exact ⟨(p.2, p.1), (invI_mem fun p hp => by have := hr p hp; omega).2 ⟨p, hp, rfl⟩, hg⟩
/-- What the pairs say of an element. -/
def oneP (f : Nat → Bool) (x : Nat) (l : List (Int × Int)) : Bool := l.any fun p => decide (p.1 = (x : Int)) && f p.2.toNat
def eachP (f : Nat → Bool) (x : Nat) (l : List (Int × Int)) : Bool := !l.any fun p => decide (p.1 = (x : Int)) && !f p.2.toNat
theorem oneP_snoc {f : Nat → Bool} {x : Nat} {l : List (Int × Int)} {p : Int × Int} : oneP f x (l ++ [p]) = (oneP f x l || (decide (p.1 = (x : Int)) && f p.2.toNat)) := by simp [oneP]
theorem eachP_snoc {f : Nat → Bool} {x : Nat} {l : List (Int × Int)} {p : Int × Int} : eachP f x (l ++ [p]) = (eachP f x l && (!decide (p.1 = (x : Int)) || f p.2.toNat)) := by simp [eachP, Bool.not_or, Bool.not_and]
theorem some_one {i : Itp} (hi : i.wf) {r : Int} (h0 : 0 ≤ r) (h1 : r < 2 * (i.rols.length : Int)) {c : Con} {x : Nat} (hx : x < sz i) : semC i (.mk 6 r [c]) x = oneP (semC i c) x (relL i r) := by
  unfold oneP
  rw [any_rel hi h0 h1]
  simp [semC, semH, hx]
theorem all_each {i : Itp} (hi : i.wf) {r : Int} (h0 : 0 ≤ r) (h1 : r < 2 * (i.rols.length : Int)) {c : Con} {x : Nat} (hx : x < sz i) : semC i (.mk 7 r [c]) x = eachP (semC i c) x (relL i r) := by
  unfold eachP
  rw [any_rel hi h0 h1]
  simp [semC, semH, hx]
theorem fine_one {n : Nms} {i : Itp} {d : Con} (h1 : namesOK n = true) (h3 : itpOK n i = true) (hd : conOK n d = true) : fineI n i [d] = 0 := by
  unfold fineI; rw [h1, h3]; simp [hd]
theorem fine_nil {n : Nms} {i : Itp} (h1 : namesOK n = true) (h3 : itpOK n i = true) : fineI n i [] = 0 := by
  unfold fineI; rw [h1, h3]; simp
section
variable {m : GM} {G : Nat → Option (List AV)}
theorem s_iOf2 (o n : Int) (c d : Con) (tok : Tok) (j : JH) : JC Tryd.prog G 23 [I64 o, I64 n, .sl tok 2 (c.enc ++ d.enc)] j (RET (.agg (Con.mk o n [c, d]).enc) j) := by
  have h := s_iCOf (G := G) o n [c, d] tok j
  rwa [encs_cons, encs_cons, encs_nil, List.append_nil] at h
theorem conOK_mk1 {n : Nms} {o r : Int} {c : Con} (hc : conOK n c = true) (hn : c.nodes ≤ 150) (hd : (c.depth : Int) < 20) (h : shaped n.cs.length n.rs.length (.mk o r [c]) = true) : conOK n (.mk o r [c]) = true := by
  unfold conOK
  rw [h, Bool.and_true, Bool.and_eq_true, decide_eq_true_eq, decide_eq_true_eq]
  simp only [Con.nodes, Con.nodesL, Con.depth, Con.depthL]
  constructor <;> omega
theorem conOK_mk2 {n : Nms} {o r : Int} {c d : Con} (hn : c.nodes ≤ 150) (hn2 : d.nodes ≤ 150) (hd : (c.depth : Int) < 20) (hd2 : (d.depth : Int) < 20) (h : shaped n.cs.length n.rs.length (.mk o r [c, d]) = true) : conOK n (.mk o r [c, d]) = true := by
  unfold conOK
  rw [h, Bool.and_true, Bool.and_eq_true, decide_eq_true_eq, decide_eq_true_eq]
  simp only [Con.nodes, Con.nodesL, Con.depth, Con.depthL]
  constructor <;> omega
def ir5 : IFn := ⟨243, [⟨10, none⟩], (.seq (.reg [oA 5 (.box 24 (.r 0)), oA 6 (.box 44 (.r 1)), oA 7 (.box 44 (.r 2)), oA 8 (.box 29 (.r 3)), oA 10 (.mov (kB false))]) (.seq (.seq (.reg [oL 25 5 (some 3), oL 26 8 (some 4), oL 27 6 (some 3), oL 28 7 (some 3), oA 29 (.bsl 2 3 [.v (.int .i64 0), .v (.int .i64 0), .sl .nil 0 []] [(0, (3, .r 27)), (3, (3, .r 28))]), oA 30 (.call 7 [.r 25, .r 26, .r 29]), oA 31 (.not (.r 30)), oA 32 (kM 31), ⟨(some 33), (some ((32, false))), (some (.r 5)), (.load (some 3) (.r 5))⟩, ⟨(some 34), (some ((32, false))), (some (.r 8)), (.load (some 4) (.r 8))⟩, ⟨(some 35), (some ((32, false))), (some (.r 6)), (.load (some 3) (.r 6))⟩, ⟨(some 36), (some ((32, false))), (some (.r 7)), (.load (some 3) (.r 7))⟩, ⟨(some 37), (some ((32, false))), none, (.bsl 2 3 [.v (.int .i64 0), .v (.int .i64 0), .sl .nil 0 []] [(0, (3, .r 35)), (3, (3, .r 36))])⟩, ⟨(some 38), (some ((32, false))), none, (.call 10 [.r 33, .r 34, .r 37])⟩, ⟨(some 39), (some ((32, false))), none, (.bin .neq (.r 38) (kI 0))⟩, oA 40 (.pick (.r 32) (kB true) (.r 39)), oA 41 (kM 40), ⟨(some 42), (some ((41, false))), (some (.r 5)), (.load (some 3) (.r 5))⟩, ⟨(some 43), (some ((41, false))), none, (kM 4)⟩, ⟨(some 44), (some ((41, false))), none, (.call 12 [.r 42, .r 43])⟩, ⟨(some 45), (some ((41, false))), none, (.not (.r 44))⟩, oA 46 (.pick (.r 41) (kB true) (.r 45)), oA 47 (kM 46), ⟨(some 48), (some ((47, false))), (some (.r 6)), (.load (some 3) (.r 6))⟩, ⟨(some 49), (some ((47, false))), none, (.call 20 [.r 48, .k (.v (.int .i64 150))])⟩, ⟨(some 50), (some ((47, false))), none, (.not (.r 49))⟩, oA 51 (.pick (.r 47) (kB true) (.r 50)), oA 52 (kM 51), ⟨(some 53), (some ((52, false))), (some (.r 7)), (.load (some 3) (.r 7))⟩, ⟨(some 54), (some ((52, false))), none, (.call 20 [.r 53, .k (.v (.int .i64 150))])⟩, ⟨(some 55), (some ((52, false))), none, (.not (.r 54))⟩, oA 56 (.pick (.r 52) (kB true) (.r 55)), oA 57 (kM 56), ⟨(some 58), (some ((57, false))), (some (.r 6)), (.load (some 3) (.r 6))⟩, ⟨(some 59), (some ((57, false))), (some (.r 58)), (.call 21 [.r 58])⟩, oA 60 (.pick (.r 57) (kB true) (.r 59)), oA 61 (kM 60), ⟨(some 62), (some ((61, false))), (some (.r 7)), (.load (some 3) (.r 7))⟩, ⟨(some 63), (some ((61, false))), (some (.r 62)), (.call 21 [.r 62])⟩, oA 64 (.pick (.r 61) (kB true) (.r 63))]) (.cond (.r 64) (.seq (.reg [oA 65 (.call 8 []), oA 10 (kM 65)]) .ret) .skip)) (.seq (.draw [oL 66 5 (some 3), oL 67 6 (some 3), oL 68 8 (some 4), oA 69 (.call 22 [.r 66, .r 67, .r 68]), oL 70 5 (some 3), oL 71 7 (some 3), oL 72 8 (some 4), oA 73 (.call 22 [.r 70, .r 71, .r 72]), oA 11 (kM 69), oA 12 (kM 73)] [(4, 3), (5, 3), (6, 3)]) (.seq (.reg [oL 75 5 (some 3), oL 76 8 (some 4), oA 77 (kM 4), oA 78 (.call 9 [.r 75, .r 76, .r 77]), oA 74 (kM 78), oA 79 (.ext (.r 74) 0), oA 80 (.ext (.r 74) 1), oA 13 (kM 79), oA 14 (kM 80)]) (.seq (.seq (.reg [oA 81 (kM 11), oA 82 (.gen ⟨(some 82), (.binOp .eql 55 (.tmp 81) (.const (.slice none 0 0)) 55), 4, "law.go:142", #[⟨0, .data⟩], none⟩), oA 83 (kM 82), ⟨(some 84), (some ((83, false))), none, (kM 12)⟩, ⟨(some 85), (some ((83, false))), none, (.gen ⟨(some 85), (.binOp .eql 55 (.tmp 84) (.const (.slice none 0 0)) 55), 4, "law.go:142", #[⟨3, .data⟩, ⟨2, .guard⟩], (some ((2, false)))⟩)⟩, oA 86 (.pick (.r 83) (kB true) (.r 85)), oA 87 (kM 86), ⟨(some 88), (some ((87, false))), none, (kM 14)⟩, ⟨(some 89), (some ((87, false))), none, (.bin .neq (.r 88) (kI 0))⟩, oA 90 (.pick (.r 87) (kB true) (.r 89))]) (.cond (.r 90) (.seq (.reg [oA 10 (.mov (kB false))]) .ret) .skip)) (.seq (.draw [oL 91 5 (some 3), oL 92 6 (some 3), oA 93 (.bsl 1 3 [.v (.int .i64 0), .v (.int .i64 0), .sl .nil 0 []] [(0, (3, .r 92))]), oA 94 (.call 23 [.k (.v (.int .i64 3)), .k (.v (.int .i64 0)), .r 93]), oL 95 8 (some 4), oA 96 (.call 22 [.r 91, .r 94, .r 95]), oA 15 (kM 96)] [(0, 3), (4, 3)]) (.seq (.draw [oL 97 5 (some 3), oL 98 6 (some 3), oL 99 7 (some 3), oA 100 (.bsl 2 3 [.v (.int .i64 0), .v (.int .i64 0), .sl .nil 0 []] [(0, (3, .r 98)), (3, (3, .r 99))]), oA 101 (.call 23 [.k (.v (.int .i64 4)), .k (.v (.int .i64 0)), .r 100]), oL 102 8 (some 4), oA 103 (.call 22 [.r 97, .r 101, .r 102]), oA 16 (kM 103)] [(0, 4), (5, 4)]) (.seq (.draw [oL 104 5 (some 3), oL 105 6 (some 3), oL 106 7 (some 3), oA 107 (.bsl 2 3 [.v (.int .i64 0), .v (.int .i64 0), .sl .nil 0 []] [(0, (3, .r 105)), (3, (3, .r 106))]), oA 108 (.call 23 [.k (.v (.int .i64 5)), .k (.v (.int .i64 0)), .r 107]), oL 109 8 (some 4), oA 110 (.call 22 [.r 104, .r 108, .r 109]), oA 17 (kM 110)] [(0, 4), (5, 4)]) (.seq (.draw [oL 111 5 (some 3), oA 112 (kM 4), oL 113 6 (some 3), oA 114 (.bsl 1 3 [.v (.int .i64 0), .v (.int .i64 0), .sl .nil 0 []] [(0, (3, .r 113))]), oA 115 (.call 23 [.k (.v (.int .i64 6)), .r 112, .r 114]), oL 116 8 (some 4), oA 117 (.call 22 [.r 111, .r 115, .r 116]), oA 18 (kM 117)] [(0, 4), (5, 4)]) (.seq (.draw [oL 118 5 (some 3), oA 119 (kM 4), oL 120 6 (some 3), oA 121 (.bsl 1 3 [.v (.int .i64 0), .v (.int .i64 0), .sl .nil 0 []] [(0, (3, .r 120))]), oA 122 (.call 23 [.k (.v (.int .i64 7)), .r 119, .r 121]), oL 123 8 (some 4), oA 124 (.call 22 [.r 118, .r 122, .r 123]), oA 19 (kM 124)] [(0, 4), (5, 4)]) (.seq (.seq (.reg [oA 125 (kM 15), oA 126 (.gen ⟨(some 126), (.binOp .eql 55 (.tmp 125) (.const (.slice none 0 0)) 55), 4, "law.go:150", #[⟨0, .data⟩], none⟩), oA 127 (kM 126), ⟨(some 128), (some ((127, false))), none, (kM 16)⟩, ⟨(some 129), (some ((127, false))), none, (.gen ⟨(some 129), (.binOp .eql 55 (.tmp 128) (.const (.slice none 0 0)) 55), 4, "law.go:150", #[⟨3, .data⟩, ⟨2, .guard⟩], (some ((2, false)))⟩)⟩, oA 130 (.pick (.r 127) (kB true) (.r 129)), oA 131 (kM 130), ⟨(some 132), (some ((131, false))), none, (kM 17)⟩, ⟨(some 133), (some ((131, false))), none, (.gen ⟨(some 133), (.binOp .eql 55 (.tmp 132) (.const (.slice none 0 0)) 55), 4, "law.go:150", #[⟨7, .data⟩, ⟨6, .guard⟩], (some ((6, false)))⟩)⟩, oA 134 (.pick (.r 131) (kB true) (.r 133)), oA 135 (kM 134), ⟨(some 136), (some ((135, false))), none, (kM 18)⟩, ⟨(some 137), (some ((135, false))), none, (.gen ⟨(some 137), (.binOp .eql 55 (.tmp 136) (.const (.slice none 0 0)) 55), 4, "law.go:150", #[⟨11, .data⟩, ⟨10, .guard⟩], (some ((10, false)))⟩)⟩, oA 138 (.pick (.r 135) (kB true) (.r 137)), oA 139 (kM 138), ⟨(some 140), (some ((139, false))), none, (kM 19)⟩, ⟨(some 141), (some ((139, false))), none, (.gen ⟨(some 141), (.binOp .eql 55 (.tmp 140) (.const (.slice none 0 0)) 55), 4, "law.go:150", #[⟨15, .data⟩, ⟨14, .guard⟩], (some ((14, false)))⟩)⟩, oA 142 (.pick (.r 139) (kB true) (.r 141))]) (.cond (.r 142) (.seq (.reg [oA 10 (.mov (kB false))]) .ret) .skip)) (.seq (.seq (.reg [oA 143 (.fadr 0 (.r 8)), oL 144 143 none, oA 145 (.mov (kI 0))]) (.block 0 (.loop (.seq (.reg [oA 146 (.bin .lss (.r 145) (.r 144))]) (.seq (.cond (.r 146) .skip (.exit 0)) (.seq (.block 1 (.seq (.reg [oA 147 (kM 145), oA 20 (kM 147)]) (.seq (.reg [oA 21 (.mov (kB false)), oA 22 (.mov (kB true))]) (.seq (.seq (.reg [oA 148 (kM 13), oT 149 148 (.lenl (.r 148)), oA 150 (.mov (kI 0))]) (.block 2 (.loop (.seq (.reg [oA 151 (.bin .lss (.r 150) (.r 149))]) (.seq (.cond (.r 151) .skip (.exit 2)) (.seq (.block 3 (.seq (.reg [oA 152 (.iasl 2 (.r 148) (.r 150)), oL 153 152 (some 2), oA 24 (.alloc 58 [.v (.int .i64 0), .v (.int .i64 0)]), oN (.store 2 (.r 24) (.r 153))]) (.seq (.reg [oA 154 (.iaar 2 1 (.r 24) (kI 0)), oL 155 154 none, oA 156 (kM 20), oA 157 (.bin .eql (.r 155) (.r 156))]) (.cond (.r 157) (.draw [oA 158 (kM 21), oA 159 (kM 158), ⟨(some 160), (some ((159, false))), none, (kM 11)⟩, ⟨(some 161), (some ((159, false))), none, (.iaar 2 1 (.r 24) (kI 1))⟩, ⟨(some 162), (some ((159, false))), (some (.r 161)), (.load none (.r 161))⟩, ⟨(some 163), (some ((159, false))), none, (.iasl 1 (.r 160) (.r 162))⟩, ⟨(some 164), (some ((159, false))), (some (.r 163)), (.load none (.r 163))⟩, oA 165 (.pick (.r 159) (kB true) (.r 164)), oA 166 (kM 22), oA 167 (kM 166), ⟨(some 168), (some ((167, true))), none, (kM 11)⟩, ⟨(some 169), (some ((167, true))), none, (.iaar 2 1 (.r 24) (kI 1))⟩, ⟨(some 170), (some ((167, true))), (some (.r 169)), (.load none (.r 169))⟩, ⟨(some 171), (some ((167, true))), none, (.iasl 1 (.r 168) (.r 170))⟩, ⟨(some 172), (some ((167, true))), (some (.r 171)), (.load none (.r 171))⟩, oA 173 (.pick (.r 167) (.r 172) (kB false)), oA 21 (kM 165), oA 22 (kM 173)] []) .skip)))) (.reg [oA 174 (.bin .add (.r 150) (kI 1)), oA 150 (kM 174)]))))))) (.seq (.draw [oA 175 (kM 15), oA 176 (kM 20), oA 177 (.iasl 1 (.r 175) (.r 176)), oL 178 177 none, oA 179 (kM 11), oA 180 (kM 20), oA 181 (.iasl 1 (.r 179) (.r 180)), oL 182 181 none, oA 183 (.beq false (.r 178) (.r 182)), oA 184 (kM 183), ⟨(some 185), (some ((184, false))), none, (kM 16)⟩, ⟨(some 186), (some ((184, false))), none, (kM 20)⟩, ⟨(some 187), (some ((184, false))), none, (.iasl 1 (.r 185) (.r 186))⟩, ⟨(some 188), (some ((184, false))), (some (.r 187)), (.load none (.r 187))⟩, ⟨(some 189), (some ((184, false))), none, (kM 11)⟩, ⟨(some 190), (some ((184, false))), none, (kM 20)⟩, ⟨(some 191), (some ((184, false))), none, (.iasl 1 (.r 189) (.r 190))⟩, ⟨(some 192), (some ((184, false))), (some (.r 191)), (.load none (.r 191))⟩, ⟨(some 193), (some ((184, false))), none, (kM 192)⟩, ⟨(some 194), (some ((193, true))), none, (kM 12)⟩, ⟨(some 195), (some ((193, true))), none, (kM 20)⟩, ⟨(some 196), (some ((193, true))), none, (.iasl 1 (.r 194) (.r 195))⟩, ⟨(some 197), (some ((193, true))), (some (.r 196)), (.load none (.r 196))⟩, ⟨(some 198), (some ((184, false))), none, (.pick (.r 193) (.r 197) (kB false))⟩, ⟨(some 199), (some ((184, false))), none, (.beq true (.r 188) (.r 198))⟩, oA 200 (.pick (.r 184) (kB true) (.r 199)), oA 201 (kM 200), ⟨(some 202), (some ((201, false))), none, (kM 17)⟩, ⟨(some 203), (some ((201, false))), none, (kM 20)⟩, ⟨(some 204), (some ((201, false))), none, (.iasl 1 (.r 202) (.r 203))⟩, ⟨(some 205), (some ((201, false))), (some (.r 204)), (.load none (.r 204))⟩, ⟨(some 206), (some ((201, false))), none, (kM 11)⟩, ⟨(some 207), (some ((201, false))), none, (kM 20)⟩, ⟨(some 208), (some ((201, false))), none, (.iasl 1 (.r 206) (.r 207))⟩, ⟨(some 209), (some ((201, false))), (some (.r 208)), (.load none (.r 208))⟩, ⟨(some 210), (some ((201, false))), none, (kM 209)⟩, ⟨(some 211), (some ((210, false))), none, (kM 12)⟩, ⟨(some 212), (some ((210, false))), none, (kM 20)⟩, ⟨(some 213), (some ((210, false))), none, (.iasl 1 (.r 211) (.r 212))⟩, ⟨(some 214), (some ((210, false))), (some (.r 213)), (.load none (.r 213))⟩, ⟨(some 215), (some ((201, false))), none, (.pick (.r 210) (kB true) (.r 214))⟩, ⟨(some 216), (some ((201, false))), none, (.beq true (.r 205) (.r 215))⟩, oA 217 (.pick (.r 201) (kB true) (.r 216)), oA 218 (kM 217), ⟨(some 219), (some ((218, false))), none, (kM 18)⟩, ⟨(some 220), (some ((218, false))), none, (kM 20)⟩, ⟨(some 221), (some ((218, false))), none, (.iasl 1 (.r 219) (.r 220))⟩, ⟨(some 222), (some ((218, false))), (some (.r 221)), (.load none (.r 221))⟩, ⟨(some 223), (some ((218, false))), none, (kM 21)⟩, ⟨(some 224), (some ((218, false))), none, (.beq true (.r 222) (.r 223))⟩, oA 225 (.pick (.r 218) (kB true) (.r 224)), oA 226 (kM 225), ⟨(some 227), (some ((226, false))), none, (kM 19)⟩, ⟨(some 228), (some ((226, false))), none, (kM 20)⟩, ⟨(some 229), (some ((226, false))), none, (.iasl 1 (.r 227) (.r 228))⟩, ⟨(some 230), (some ((226, false))), (some (.r 229)), (.load none (.r 229))⟩, ⟨(some 231), (some ((226, false))), none, (kM 22)⟩, ⟨(some 232), (some ((226, false))), none, (.beq true (.r 230) (.r 231))⟩, oA 233 (.pick (.r 226) (kB true) (.r 232))] []) (.cond (.r 233) (.seq (.reg [oA 10 (.mov (kB false))]) .ret) .skip)))))) (.reg [oA 234 (.bin .add (.r 145) (kI 1)), oA 145 (kM 234)]))))))) (.seq (.reg [oL 235 5 (some 3), oL 236 6 (some 3), oL 237 8 (some 4), oA 238 (kM 11), oA 239 (.call 24 [.r 235, .r 236, .r 237, .r 238]), oA 240 (kM 239), ⟨(some 241), (some ((240, true))), none, (.call 8 [])⟩, oA 242 (.pick (.r 240) (.r 241) (kB false)), oA 10 (kM 242)]) .ret)))))))))))))⟩
theorem c5 : cfunc Tryd.prog 5 = some ir5 := by kernel_rfl
theorem k5 : okIR (max 5 ir5.n) ir5.ir = true := by decide +kernel
theorem s_InterpBoolean (hdu : GG m 0 = some DUALS) (aw : ∀ j : JH, JC Tryd.prog (GG m) 8 [] j (RET (BOO true) j)) (n : Nms) (hn : n.ok) (hs : n.short) (c : Con) (hc : c.ok) (d : Con) (hd : d.ok) (i : Itp) (hok : i.ok) (r : Int) (hr : R64 r) (j : JH) :
    JC Tryd.prog (GG m) 5 [.agg n.enc, .agg c.enc, .agg d.enc, .agg i.enc, I64 r] j (RET (BOO true) j) := by
  refine JC.run hmix c5 (by exact k5) ?_
  (try simp only[↓jr,jw,seval,ji,ext_ext,pid_pid,ir5])
  have e2 : ∀ j0 : JH, ∀ tok : Tok, JC Tryd.prog (GG m) 7 [.agg n.enc, .agg i.enc, .sl tok 2 (c.enc ++ d.enc)] j0 (RET (BOO (fewI n i [c, d])) j0) := by
    intro j0 tok
    have := s_ifew (m := m) n hn hs i hok [c, d] tok ⟨hc, hd, trivial⟩ (by simp) j0
    rwa [encs_cons, encs_cons, encs_nil, List.append_nil] at this
  have f2 : ∀ j0 : JH, ∀ tok : Tok, JC Tryd.prog (GG m) 10 [.agg n.enc, .agg i.enc, .sl tok 2 (c.enc ++ d.enc)] j0 (RET (I64 (fineI n i [c, d])) j0) := by
    intro j0 tok
    have := s_fault (m := m) n hn hs i hok [c, d] tok ⟨hc, hd, trivial⟩ (by simp) j0
    rwa [encs_cons, encs_cons, encs_nil, List.append_nil] at this
  refine JCs.ret (e2 _ _) ?_
  (try simp only[↓jr,jw,seval,ji,ext_ext,pid_pid])
  refine ww.intro (fun h0 => ?_) (fun h0 => by (try simp only[↓jr,jw,seval,ji,ext_ext,pid_pid]); refine JCs.ret (aw _) ?_; (try simp only[↓jr,jw,seval,ji,ext_ext,pid_pid]); refine JFIN.rb ?_; exact SubB.v)
  have hb1 : c.nodes ≤ 4000000000 := by unfold fewI at h0; simp at h0; omega
  have hb2 : d.nodes ≤ 4000000000 := by unfold fewI at h0; simp at h0; omega
  (try simp only[↓jr,jw,seval,ji,ext_ext,pid_pid])
  refine JCs.ret (f2 _ _) ?_
  (try simp only[↓jr,jw,seval,ji,ext_ext,pid_pid])
  refine wq.intro (fun h1 => ?_) (fun h1 => by (try simp only[↓jr,jw,seval,ji,ext_ext,pid_pid]); refine JCs.ret (aw _) ?_; (try simp only[↓jr,jw,seval,ji,ext_ext,pid_pid]); refine JFIN.rb ?_; exact SubB.v)
  (try simp only[↓jr,jw,seval,ji,ext_ext,pid_pid])
  refine JCs.ret (s_rRole n hn r _) ?_
  (try simp only[↓jr,jw,seval,ji,ext_ext,pid_pid])
  refine ww.intro (fun h2 => ?_) (fun h2 => by (try simp only[↓jr,jw,seval,ji,ext_ext,pid_pid]); refine JCs.ret (aw _) ?_; (try simp only[↓jr,jw,seval,ji,ext_ext,pid_pid]); refine JFIN.rb ?_; exact SubB.v)
  (try simp only[↓jr,jw,seval,ji,ext_ext,pid_pid])
  refine JCs.ret (s_Fits c 150 _ hc (by omega) (by omega)) ?_
  (try simp only[↓jr,jw,seval,ji,ext_ext,pid_pid])
  refine wq.intro (fun h3 => ?_) (fun h3 => by (try simp only[↓jr,jw,seval,ji,ext_ext,pid_pid]); refine JCs.ret (aw _) ?_; (try simp only[↓jr,jw,seval,ji,ext_ext,pid_pid]); refine JFIN.rb ?_; exact SubB.v)
  (try simp only[↓jr,jw,seval,ji,ext_ext,pid_pid])
  refine JCs.ret (s_Fits d 150 _ hd (by omega) (by omega)) ?_
  (try simp only[↓jr,jw,seval,ji,ext_ext,pid_pid])
  refine wq.intro (fun h4 => ?_) (fun h4 => by (try simp only[↓jr,jw,seval,ji,ext_ext,pid_pid]); refine JCs.ret (aw _) ?_; (try simp only[↓jr,jw,seval,ji,ext_ext,pid_pid]); refine JFIN.rb ?_; exact SubB.v)
  (try simp only[↓jr,jw,seval,ji,ext_ext,pid_pid])
  refine JCs.ret (s_deep c hc hb1 _) ?_
  (try simp only[↓jr,jw,seval,ji,ext_ext,pid_pid])
  refine wq.intro (fun h5 => by (try simp only[↓jr,jw,seval,ji,ext_ext,pid_pid]); refine JCs.ret (aw _) ?_; (try simp only[↓jr,jw,seval,ji,ext_ext,pid_pid]); refine JFIN.rb ?_; exact SubB.v) (fun h5 => ?_)
  (try simp only[↓jr,jw,seval,ji,ext_ext,pid_pid])
  refine JCs.ret (s_deep d hd hb2 _) ?_
  (try simp only[↓jr,jw,seval,ji,ext_ext,pid_pid])
  refine wq.intro (fun h6 => by (try simp only[↓jr,jw,seval,ji,ext_ext,pid_pid]); refine JCs.ret (aw _) ?_; (try simp only[↓jr,jw,seval,ji,ext_ext,pid_pid]); refine JFIN.rb ?_; exact SubB.v) (fun h6 => ?_)
  obtain ⟨n1, n2, n3⟩ := fineI_zero h1
  have n2' : conOK n c = true ∧ conOK n d = true := by simpa using n2
  have hwf := (Itp.wf_of n3).1
  obtain ⟨e1, e2', e3'⟩ := sz_size hwf
  have hrl := (Itp.wf_of n3).2.2.1
  have hro := roleOK_iff.1 h2
  have hr1 : r < 2 * (i.rols.length : Int) := by omega
  have hf0 := fine_nil n1 n3
  have hrr : ∀ l ∈ i.rols, rolOKp i.size l = true := by
    unfold itpOK at n3
    simp only [Bool.and_eq_true, List.all_eq_true] at n3
    exact n3.1.2
  have hL : ∀ l ∈ i.rols, l.length ≤ 65536 := fun l hl => rol_len hwf.s1 hwf.s2 (hrr l hl)
  have hlen := relL_len hwf hro.1 hr1 hL
  have hpr := relL_pr hwf hro.1 hr1
  have eL : pairsL n i r = relL i r := by unfold pairsL; rw [if_pos ⟨hf0, h2⟩]
  have eE : pairsE n i r = 0 := by unfold pairsE; rw [if_pos hf0, h2]; rfl
  have sc := (conOK_shaped n2'.1).1
  have sd := (conOK_shaped n2'.2).1
  have k3 : conOK n (.mk 3 0 [c]) = true := conOK_mk1 n2'.1 (by omega) (by omega) (by rw [shaped_mk]; exact ⟨⟨rfl, by omega, by omega, fun _ q => by simp [quant] at q, fun _ _ => rfl⟩, by simp only [shapedL, sc, Bool.and_self]⟩)
  have k4 : conOK n (.mk 4 0 [c, d]) = true := conOK_mk2 (by omega) (by omega) (by omega) (by omega) (by rw [shaped_mk]; exact ⟨⟨rfl, by omega, by omega, fun _ q => by simp [quant] at q, fun _ _ => rfl⟩, by simp only [shapedL, sc, sd, Bool.and_self]⟩)
  have k5 : conOK n (.mk 5 0 [c, d]) = true := conOK_mk2 (by omega) (by omega) (by omega) (by omega) (by rw [shaped_mk]; exact ⟨⟨rfl, by omega, by omega, fun _ q => by simp [quant] at q, fun _ _ => rfl⟩, by simp only [shapedL, sc, sd, Bool.and_self]⟩)
  have k6 : conOK n (.mk 6 r [c]) = true := conOK_mk1 n2'.1 (by omega) (by omega) (by rw [shaped_mk]; exact ⟨⟨rfl, by omega, by omega, fun _ _ => by omega, fun _ q => by simp [quant] at q⟩, by simp only [shapedL, sc, Bool.and_self]⟩)
  have k7 : conOK n (.mk 7 r [c]) = true := conOK_mk1 n2'.1 (by omega) (by omega) (by rw [shaped_mk]; exact ⟨⟨rfl, by omega, by omega, fun _ _ => by omega, fun _ q => by simp [quant] at q⟩, by simp only [shapedL, sc, Bool.and_self]⟩)
  have z0 : R64 0 := by unfold R64; omega
  have z3 : R64 3 := by unfold R64; omega
  have z4 : R64 4 := by unfold R64; omega
  have z5 : R64 5 := by unfold R64; omega
  have z6 : R64 6 := by unfold R64; omega
  have z7 : R64 7 := by unfold R64; omega
  have o3 : (Con.mk 3 0 [c]).ok ∧ (Con.mk 3 0 [c]).nodes ≤ 4000000000 := ⟨by simp only [Con.ok, Con.oks]; exact ⟨z3, z0, by simp, hc, trivial⟩, by simp only [Con.nodes, Con.nodesL]; omega⟩
  have o4 : (Con.mk 4 0 [c, d]).ok ∧ (Con.mk 4 0 [c, d]).nodes ≤ 4000000000 := ⟨by simp only [Con.ok, Con.oks]; exact ⟨z4, z0, by simp, hc, hd, trivial⟩, by simp only [Con.nodes, Con.nodesL]; omega⟩
  have o5 : (Con.mk 5 0 [c, d]).ok ∧ (Con.mk 5 0 [c, d]).nodes ≤ 4000000000 := ⟨by simp only [Con.ok, Con.oks]; exact ⟨z5, z0, by simp, hc, hd, trivial⟩, by simp only [Con.nodes, Con.nodesL]; omega⟩
  have o6 : (Con.mk 6 r [c]).ok ∧ (Con.mk 6 r [c]).nodes ≤ 4000000000 := ⟨by simp only [Con.ok, Con.oks]; exact ⟨z6, hr, by simp, hc, trivial⟩, by simp only [Con.nodes, Con.nodesL]; omega⟩
  have o7 : (Con.mk 7 r [c]).ok ∧ (Con.mk 7 r [c]).nodes ≤ 4000000000 := ⟨by simp only [Con.ok, Con.oks]; exact ⟨z7, hr, by simp, hc, trivial⟩, by simp only [Con.nodes, Con.nodesL]; omega⟩
  (try simp only[↓jr,jw,seval,ji,ext_ext,pid_pid])
  refine JDC.use (s_setI n hn hs c hc hb1 i hok (fine_one n1 n3 n2'.1) _) ?_
  (try simp only[↓jr,jw,seval,ji,ext_ext,pid_pid])
  refine JDC.use (s_setI n hn hs d hd hb2 i hok (fine_one n1 n3 n2'.2) _) ?_
  (try simp only[↓jr,jw,seval,ji,ext_ext,pid_pid])
  refine JDRAW.oc (by (try simp only[↓jr,jw,seval,ji,ext_ext,pid_pid,jq,qe2,qe3,ext_next,ext_tnext,pushTok_next,List.length_cons,List.length_nil]) <;> (repeat' (first | exact trivial | refine And.intro ?_ ?_ | exact Nat.le_refl _ | (refine pr_extp ⟨_, rfl⟩ (some_lt ?_)) | (refine pr_extp ⟨_, rfl⟩ (fun _ q => by cases q)) | omega | (unfold pid; omega) | (simp only [pushTok_next, List.length_cons, List.length_nil]; unfold pid; omega)))) ?_; (try simp only[↓jr,jw,seval,ji,ext_ext,pid_pid])
  refine JCs.ret (s_Pairs n hn hs i hok r _) ?_
  rw [eL, eE]
  (try simp only[↓jr,jw,seval,ji,ext_ext,pid_pid])
  refine JGEN.nil (ne := false) (t := 81) (by kernel_rfl) ?_
  (try simp only[↓jr,jw,seval,ji,ext_ext,pid_pid,jnil_arr])
  refine JGEN.nil (ne := false) (t := 84) (by kernel_rfl) ?_
  (try simp only[↓jr,jw,seval,ji,ext_ext,pid_pid,jnil_arr])
  refine JDC.use (s_iOf1 3 0 c _ _) ?_
  (try simp only[↓jr,jw,seval,ji,ext_ext,pid_pid])
  refine JDC.use (s_setI n hn hs _ o3.1 o3.2 i hok (fine_one n1 n3 k3) _) ?_
  (try simp only[↓jr,jw,seval,ji,ext_ext,pid_pid])
  refine JDRAW.oc (by (try simp only[↓jr,jw,seval,ji,ext_ext,pid_pid,jq,qe2,qe3,ext_next,ext_tnext,pushTok_next,List.length_cons,List.length_nil]) <;> (repeat' (first | exact trivial | refine And.intro ?_ ?_ | exact Nat.le_refl _ | (refine pr_extp ⟨_, rfl⟩ (some_lt ?_)) | (refine pr_extp ⟨_, rfl⟩ (fun _ q => by cases q)) | omega | (unfold pid; omega) | (simp only [pushTok_next, List.length_cons, List.length_nil]; unfold pid; omega)))) ?_; (try simp only[↓jr,jw,seval,ji,ext_ext,pid_pid])
  refine JDC.use (s_iOf2 4 0 c d _ _) ?_
  (try simp only[↓jr,jw,seval,ji,ext_ext,pid_pid])
  refine JDC.use (s_setI n hn hs _ o4.1 o4.2 i hok (fine_one n1 n3 k4) _) ?_
  (try simp only[↓jr,jw,seval,ji,ext_ext,pid_pid])
  refine JDRAW.oc (by (try simp only[↓jr,jw,seval,ji,ext_ext,pid_pid,jq,qe2,qe3,ext_next,ext_tnext,pushTok_next,List.length_cons,List.length_nil]) <;> (repeat' (first | exact trivial | refine And.intro ?_ ?_ | exact Nat.le_refl _ | (refine pr_extp ⟨_, rfl⟩ (some_lt ?_)) | (refine pr_extp ⟨_, rfl⟩ (fun _ q => by cases q)) | omega | (unfold pid; omega) | (simp only [pushTok_next, List.length_cons, List.length_nil]; unfold pid; omega)))) ?_; (try simp only[↓jr,jw,seval,ji,ext_ext,pid_pid])
  refine JDC.use (s_iOf2 5 0 c d _ _) ?_
  (try simp only[↓jr,jw,seval,ji,ext_ext,pid_pid])
  refine JDC.use (s_setI n hn hs _ o5.1 o5.2 i hok (fine_one n1 n3 k5) _) ?_
  (try simp only[↓jr,jw,seval,ji,ext_ext,pid_pid])
  refine JDRAW.oc (by (try simp only[↓jr,jw,seval,ji,ext_ext,pid_pid,jq,qe2,qe3,ext_next,ext_tnext,pushTok_next,List.length_cons,List.length_nil]) <;> (repeat' (first | exact trivial | refine And.intro ?_ ?_ | exact Nat.le_refl _ | (refine pr_extp ⟨_, rfl⟩ (some_lt ?_)) | (refine pr_extp ⟨_, rfl⟩ (fun _ q => by cases q)) | omega | (unfold pid; omega) | (simp only [pushTok_next, List.length_cons, List.length_nil]; unfold pid; omega)))) ?_; (try simp only[↓jr,jw,seval,ji,ext_ext,pid_pid])
  refine JDC.use (s_iOf1 6 r c _ _) ?_
  (try simp only[↓jr,jw,seval,ji,ext_ext,pid_pid])
  refine JDC.use (s_setI n hn hs _ o6.1 o6.2 i hok (fine_one n1 n3 k6) _) ?_
  (try simp only[↓jr,jw,seval,ji,ext_ext,pid_pid])
  refine JDRAW.oc (by (try simp only[↓jr,jw,seval,ji,ext_ext,pid_pid,jq,qe2,qe3,ext_next,ext_tnext,pushTok_next,List.length_cons,List.length_nil]) <;> (repeat' (first | exact trivial | refine And.intro ?_ ?_ | exact Nat.le_refl _ | (refine pr_extp ⟨_, rfl⟩ (some_lt ?_)) | (refine pr_extp ⟨_, rfl⟩ (fun _ q => by cases q)) | omega | (unfold pid; omega) | (simp only [pushTok_next, List.length_cons, List.length_nil]; unfold pid; omega)))) ?_; (try simp only[↓jr,jw,seval,ji,ext_ext,pid_pid])
  refine JDC.use (s_iOf1 7 r c _ _) ?_
  (try simp only[↓jr,jw,seval,ji,ext_ext,pid_pid])
  refine JDC.use (s_setI n hn hs _ o7.1 o7.2 i hok (fine_one n1 n3 k7) _) ?_
  (try simp only[↓jr,jw,seval,ji,ext_ext,pid_pid])
  refine JDRAW.oc (by (try simp only[↓jr,jw,seval,ji,ext_ext,pid_pid,jq,qe2,qe3,ext_next,ext_tnext,pushTok_next,List.length_cons,List.length_nil]) <;> (repeat' (first | exact trivial | refine And.intro ?_ ?_ | exact Nat.le_refl _ | (refine pr_extp ⟨_, rfl⟩ (some_lt ?_)) | (refine pr_extp ⟨_, rfl⟩ (fun _ q => by cases q)) | omega | (unfold pid; omega) | (simp only [pushTok_next, List.length_cons, List.length_nil]; unfold pid; omega)))) ?_; (try simp only[↓jr,jw,seval,ji,ext_ext,pid_pid])
  refine JGEN.nil (ne := false) (t := 125) (by kernel_rfl) ?_
  (try simp only[↓jr,jw,seval,ji,ext_ext,pid_pid,jnil_arr])
  refine JGEN.nil (ne := false) (t := 128) (by kernel_rfl) ?_
  (try simp only[↓jr,jw,seval,ji,ext_ext,pid_pid,jnil_arr])
  refine JGEN.nil (ne := false) (t := 132) (by kernel_rfl) ?_
  (try simp only[↓jr,jw,seval,ji,ext_ext,pid_pid,jnil_arr])
  refine JGEN.nil (ne := false) (t := 136) (by kernel_rfl) ?_
  (try simp only[↓jr,jw,seval,ji,ext_ext,pid_pid,jnil_arr])
  refine JGEN.nil (ne := false) (t := 140) (by kernel_rfl) ?_
  (try simp only[↓jr,jw,seval,ji,ext_ext,pid_pid,jnil_arr])
  have ht : TokExt j (((((((j.pushTok 2).pushTok 2).pushTok 1).pushTok 2).pushTok 2).pushTok 1).pushTok 1) := by repeat' (first | exact TokExt.refl _ | refine TokExt.push ?_ _)
  generalize (((((((j.pushTok 2).pushTok 2).pushTok 1).pushTok 2).pushTok 2).pushTok 1).pushTok 1) = jz at ht ⊢
  have hnx := ht.next
  refine JLOOP.of (σ := Nat) (fun k => k ≤ sz i) (fun k => sz i - k) (fun k => [(145, I64 k), (144, I64 i.size), (11, .arr (pid j.next 4) 0 (sz i)), (12, .arr (pid j.next 5) 0 (sz i)), (13, .sl .none (relL i r).length (encs PR (relL i r))), (15, .arr (pid j.next 6) 0 (sz i)), (16, .arr (pid j.next 7) 0 (sz i)), (17, .arr (pid j.next 8) 0 (sz i)), (18, .arr (pid j.next 9) 0 (sz i)), (19, .arr (pid j.next 10) 0 (sz i)), (5, .ptr (pid j.next 0) 0), (6, .ptr (pid j.next 1) 0), (8, .ptr (pid j.next 3) 0)]) (fun k => ext jz [.cells 24 n.enc, .cells 44 c.enc, .cells 44 d.enc, .cells 29 i.enc, .cells BE (bls (semC i c) (sz i)), .cells BE (bls (semC i d) (sz i)), .cells BE (bls (semC i (.mk 3 0 [c])) (sz i)), .cells BE (bls (semC i (.mk 4 0 [c, d])) (sz i)), .cells BE (bls (semC i (.mk 5 0 [c, d])) (sz i)), .cells BE (bls (semC i (.mk 6 r [c])) (sz i)), .cells BE (bls (semC i (.mk 7 r [c])) (sz i))]) 0 (Nat.zero_le _) ?_ (JDropH.refl _) ?_
  · (try simp only[↓jr,jw,seval,ji,ext_ext,pid_pid,DL])
    exact ⟨SubB.v, SubB.v, SubB.arr (by have := ht.next; unfold pid; omega), SubB.arr (by have := ht.next; unfold pid; omega), SubB.sl rfl (SubBs.pure (PR.pur _)), SubB.arr (by have := ht.next; unfold pid; omega), SubB.arr (by have := ht.next; unfold pid; omega), SubB.arr (by have := ht.next; unfold pid; omega), SubB.arr (by have := ht.next; unfold pid; omega), SubB.arr (by have := ht.next; unfold pid; omega), SubB.ptr (by have := ht.next; unfold pid; omega), SubB.ptr (by have := ht.next; unfold pid; omega), SubB.ptr (by have := ht.next; unfold pid; omega)⟩
  intro k hkk
  (try simp only[↓jr,jw,seval,ji,ext_ext,pid_pid,ht.next])
  refine wq.intro (fun g1 => ?_) (fun g1 => ?_)
  · have hlt : k < sz i := by omega
    (try simp only[↓jr,jw,seval,ji,ext_ext,pid_pid,ht.next])
    refine JLOOP.of (σ := Nat) (fun q => q ≤ (relL i r).length) (fun q => (relL i r).length - q)
      (fun q => [(150, I64 q), (149, I64 (relL i r).length), (148, .sl .none (relL i r).length (encs PR (relL i r))), (20, I64 k), (21, BOO (oneP (semC i c) k ((relL i r).take q))), (22, BOO (eachP (semC i c) k ((relL i r).take q))), (145, I64 k), (144, I64 i.size), (11, .arr (pid j.next 4) 0 (sz i)), (12, .arr (pid j.next 5) 0 (sz i)), (13, .sl .none (relL i r).length (encs PR (relL i r))), (15, .arr (pid j.next 6) 0 (sz i)), (16, .arr (pid j.next 7) 0 (sz i)), (17, .arr (pid j.next 8) 0 (sz i)), (18, .arr (pid j.next 9) 0 (sz i)), (19, .arr (pid j.next 10) 0 (sz i)), (5, .ptr (pid j.next 0) 0), (6, .ptr (pid j.next 1) 0), (8, .ptr (pid j.next 3) 0)]) (fun k => ext jz [.cells 24 n.enc, .cells 44 c.enc, .cells 44 d.enc, .cells 29 i.enc, .cells BE (bls (semC i c) (sz i)), .cells BE (bls (semC i d) (sz i)), .cells BE (bls (semC i (.mk 3 0 [c])) (sz i)), .cells BE (bls (semC i (.mk 4 0 [c, d])) (sz i)), .cells BE (bls (semC i (.mk 5 0 [c, d])) (sz i)), .cells BE (bls (semC i (.mk 6 r [c])) (sz i)), .cells BE (bls (semC i (.mk 7 r [c])) (sz i))]) 0 (Nat.zero_le _) ?_ (JDropH.refl _) ?_
    · (try simp only[↓jr,jw,seval,ji,ext_ext,pid_pid,DL])
      exact ⟨SubB.v, SubB.v, SubB.sl rfl (SubBs.pure (PR.pur _)), SubB.v, SubB.v, SubB.v, SubB.v, SubB.v, SubB.arr (by have := ht.next; unfold pid; omega), SubB.arr (by have := ht.next; unfold pid; omega), SubB.sl rfl (SubBs.pure (PR.pur _)), SubB.arr (by have := ht.next; unfold pid; omega), SubB.arr (by have := ht.next; unfold pid; omega), SubB.arr (by have := ht.next; unfold pid; omega), SubB.arr (by have := ht.next; unfold pid; omega), SubB.arr (by have := ht.next; unfold pid; omega), SubB.ptr (by have := ht.next; unfold pid; omega), SubB.ptr (by have := ht.next; unfold pid; omega), SubB.ptr (by have := ht.next; unfold pid; omega)⟩
    intro q hq
    (try simp only[↓jr,jw,seval,ji,ext_ext,pid_pid,ht.next])
    refine wq.intro (fun g2 => ?_) (fun g2 => ?_)
    · have hltq : q < (relL i r).length := by omega
      obtain ⟨p, pr, hpd⟩ : ∃ c_ l_, List.drop q (relL i r) = c_ :: l_ := ⟨_, _, List.drop_eq_getElem_cons hltq⟩
      have hmem : p ∈ relL i r := List.mem_of_mem_drop (hpd ▸ List.mem_cons_self)
      have htk : (relL i r).take (q + 1) = (relL i r).take q ++ [p] := by
        have : (relL i r)[q]? = some p := by rw [← List.head?_drop, hpd]; rfl
        rw [List.take_add_one, this]; rfl
      obtain ⟨w1, w2, w3, w4⟩ := hpr p hmem
      have ex1 := @oneP_snoc (semC i c) k ((relL i r).take q) p
      have ex2 := @eachP_snoc (semC i c) k ((relL i r).take q) p
      rw [← htk] at ex1 ex2
      (try simp only[↓jr,jw,seval,ji,ext_ext,pid_pid,hpd,ht.next])
      refine wc.intro (by omega) ?_
      (try simp only[↓jr,jw,seval,ji,ext_ext,pid_pid,hpd,ht.next])
      refine wq.intro (fun g3 => ?_) (fun g3 => ?_)
      · rw [decide_eq_true g3, Bool.true_and] at ex1
        rw [decide_eq_true g3, Bool.not_true, Bool.false_or] at ex2
        generalize oneP (semC i c) k ((relL i r).take q) = A at ex1 ⊢
        generalize eachP (semC i c) k ((relL i r).take q) = B at ex2 ⊢
        obtain ⟨p1, p2⟩ := p
        simp only at w3 w4 ex1 ex2 ⊢
        obtain ⟨u, rfl⟩ : ∃ u : Nat, p2 = u := ⟨p2.toNat, by omega⟩
        have ea := bls_at (f := semC i c) (n := sz i) (k := u) (by omega)
        rw [Int.toNat_natCast] at ex1 ex2
        cases A <;> cases B <;> simp only [Bool.false_or, Bool.true_or, Bool.true_and, Bool.false_and] at ex1 ex2
        all_goals
          (try simp only[↓jr,jw,seval,ji,ext_ext,pid_pid,ea,ht.next])
          repeat (refine wc.intro (by omega) ?_; (try simp only[↓jr,jw,seval,ji,ext_ext,pid_pid,ea,ht.next]))
          refine JDRAW.oc (by (try simp only[↓jr,jw,seval,ji,ext_ext,pid_pid,jq,qe2,qe3,ext_next,ext_tnext,pushTok_next,List.length_cons,List.length_nil]) <;> (repeat' (first | exact trivial | refine And.intro ?_ ?_ | exact Nat.le_refl _ | (refine pr_extp ⟨_, rfl⟩ (some_lt ?_)) | (refine pr_extp ⟨_, rfl⟩ (fun _ q => by cases q)) | omega | (unfold pid; omega) | (simp only [pushTok_next, List.length_cons, List.length_nil]; unfold pid; omega)))) ?_; (try simp only[↓jr,jw,seval,ji,ext_ext,pid_pid])
          refine wc.intro (by unfold R64; omega) ?_
          (try simp only[↓jr,jw,seval,ji,ext_ext,pid_pid,ht.next])
          refine JNEXT.of (q + 1) (by omega) (by omega) ?_ (JDropH.next0 (TokExt.refl _) ⟨.inl ⟨rfl, rfl⟩, .inl ⟨rfl, rfl⟩, .inl ⟨rfl, rfl⟩, .inl ⟨rfl, rfl⟩, .inl ⟨rfl, rfl⟩, .inl ⟨rfl, rfl⟩, .inl ⟨rfl, rfl⟩, .inl ⟨rfl, rfl⟩, .inl ⟨rfl, rfl⟩, .inl ⟨rfl, rfl⟩, .inl ⟨rfl, rfl⟩, True.intro⟩)
          (try simp only[↓jr,jw,seval,ji,ext_ext,pid_pid,DL,ht.next])
          rw [ex1, ex2]
          exact ⟨SubB.v, SubB.v, SubB.sl rfl (SubBs.pure (PR.pur _)), SubB.v, SubB.v, SubB.v, SubB.v, SubB.v, SubB.arr (by have := ht.next; unfold pid; omega), SubB.arr (by have := ht.next; unfold pid; omega), SubB.sl rfl (SubBs.pure (PR.pur _)), SubB.arr (by have := ht.next; unfold pid; omega), SubB.arr (by have := ht.next; unfold pid; omega), SubB.arr (by have := ht.next; unfold pid; omega), SubB.arr (by have := ht.next; unfold pid; omega), SubB.arr (by have := ht.next; unfold pid; omega), SubB.ptr (by have := ht.next; unfold pid; omega), SubB.ptr (by have := ht.next; unfold pid; omega), SubB.ptr (by have := ht.next; unfold pid; omega)⟩
      · rw [decide_eq_false g3, Bool.false_and, Bool.or_false] at ex1
        rw [decide_eq_false g3, Bool.not_false, Bool.true_or, Bool.and_true] at ex2
        (try simp only[↓jr,jw,seval,ji,ext_ext,pid_pid,ht.next])
        refine wc.intro (by unfold R64; omega) ?_
        (try simp only[↓jr,jw,seval,ji,ext_ext,pid_pid,ht.next])
        refine JNEXT.of (q + 1) (by omega) (by omega) ?_ (JDropH.next0 (TokExt.refl _) ⟨.inl ⟨rfl, rfl⟩, .inl ⟨rfl, rfl⟩, .inl ⟨rfl, rfl⟩, .inl ⟨rfl, rfl⟩, .inl ⟨rfl, rfl⟩, .inl ⟨rfl, rfl⟩, .inl ⟨rfl, rfl⟩, .inl ⟨rfl, rfl⟩, .inl ⟨rfl, rfl⟩, .inl ⟨rfl, rfl⟩, .inl ⟨rfl, rfl⟩, True.intro⟩)
        (try simp only[↓jr,jw,seval,ji,ext_ext,pid_pid,DL,ht.next])
        rw [ex1, ex2]
        exact ⟨SubB.v, SubB.v, SubB.sl rfl (SubBs.pure (PR.pur _)), SubB.v, SubB.v, SubB.v, SubB.v, SubB.v, SubB.arr (by have := ht.next; unfold pid; omega), SubB.arr (by have := ht.next; unfold pid; omega), SubB.sl rfl (SubBs.pure (PR.pur _)), SubB.arr (by have := ht.next; unfold pid; omega), SubB.arr (by have := ht.next; unfold pid; omega), SubB.arr (by have := ht.next; unfold pid; omega), SubB.arr (by have := ht.next; unfold pid; omega), SubB.arr (by have := ht.next; unfold pid; omega), SubB.ptr (by have := ht.next; unfold pid; omega), SubB.ptr (by have := ht.next; unfold pid; omega), SubB.ptr (by have := ht.next; unfold pid; omega)⟩
    · have eq : q = (relL i r).length := by omega
      subst eq
      rw [List.take_length]
      have b1 := bls_at (f := semC i c) hlt
      have b2 := bls_at (f := semC i d) hlt
      have b3 := bls_at (f := semC i (.mk 3 0 [c])) hlt
      have b4 := bls_at (f := semC i (.mk 4 0 [c, d])) hlt
      have b5 := bls_at (f := semC i (.mk 5 0 [c, d])) hlt
      have b6 := bls_at (f := semC i (.mk 6 r [c])) hlt
      have b7 := bls_at (f := semC i (.mk 7 r [c])) hlt
      rw [show semC i (.mk 3 0 [c]) k = !semC i c k from by simp [semC, semH, hlt]] at b3
      rw [show semC i (.mk 4 0 [c, d]) k = (semC i c k && semC i d k) from by simp [semC, semH, semT, hlt]] at b4
      rw [show semC i (.mk 5 0 [c, d]) k = (semC i c k || semC i d k) from by simp [semC, semH, semT, hlt]] at b5
      rw [some_one hwf hro.1 hr1 hlt] at b6
      rw [all_each hwf hro.1 hr1 hlt] at b7
      generalize oneP (semC i c) k (relL i r) = O at b6 ⊢
      generalize eachP (semC i c) k (relL i r) = E at b7 ⊢
      generalize semC i c k = A at b1 b3 b4 b5
      generalize semC i d k = B at b2 b4 b5
      have tf : (true == false) = false := rfl
      have ft : (false == true) = false := rfl
      cases A <;> cases B <;> simp only [Bool.not_true, Bool.not_false, Bool.and_self, Bool.or_self, Bool.true_and, Bool.false_and, Bool.true_or, Bool.false_or] at b3 b4 b5
      all_goals
        (try simp only[↓jr,jw,seval,ji,ext_ext,pid_pid,b1,b2,b3,b4,b5,b6,b7,ht.next,tf,ft])
        repeat (refine wc.intro (by omega) ?_; (try simp only[↓jr,jw,seval,ji,ext_ext,pid_pid,b1,b2,b3,b4,b5,b6,b7,ht.next,beq_self_eq_true,Bool.not_true,Bool.not_false,tf,ft]))
        refine JDRAW.oc (by (try simp only[↓jr,jw,seval,ji,ext_ext,pid_pid,jq,qe2,qe3,ext_next,ext_tnext,pushTok_next,List.length_cons,List.length_nil]) <;> (repeat' (first | exact trivial | refine And.intro ?_ ?_ | exact Nat.le_refl _ | (refine pr_extp ⟨_, rfl⟩ (some_lt ?_)) | (refine pr_extp ⟨_, rfl⟩ (fun _ q => by cases q)) | omega | (unfold pid; omega) | (simp only [pushTok_next, List.length_cons, List.length_nil]; unfold pid; omega)))) ?_; (try simp only[↓jr,jw,seval,ji,ext_ext,pid_pid])
        refine wc.intro (by unfold R64; omega) ?_
        (try simp only[↓jr,jw,seval,ji,ext_ext,pid_pid,ht.next])
        refine JNEXT.of (k + 1) (by omega) (by omega) ?_ (JDropH.next0 (TokExt.refl _) ⟨.inl ⟨rfl, rfl⟩, .inl ⟨rfl, rfl⟩, .inl ⟨rfl, rfl⟩, .inl ⟨rfl, rfl⟩, .inl ⟨rfl, rfl⟩, .inl ⟨rfl, rfl⟩, .inl ⟨rfl, rfl⟩, .inl ⟨rfl, rfl⟩, .inl ⟨rfl, rfl⟩, .inl ⟨rfl, rfl⟩, .inl ⟨rfl, rfl⟩, True.intro⟩)
        (try simp only[↓jr,jw,seval,ji,ext_ext,pid_pid,DL,ht.next])
        exact ⟨SubB.v, SubB.v, SubB.arr (by have := ht.next; unfold pid; omega), SubB.arr (by have := ht.next; unfold pid; omega), SubB.sl rfl (SubBs.pure (PR.pur _)), SubB.arr (by have := ht.next; unfold pid; omega), SubB.arr (by have := ht.next; unfold pid; omega), SubB.arr (by have := ht.next; unfold pid; omega), SubB.arr (by have := ht.next; unfold pid; omega), SubB.arr (by have := ht.next; unfold pid; omega), SubB.ptr (by have := ht.next; unfold pid; omega), SubB.ptr (by have := ht.next; unfold pid; omega), SubB.ptr (by have := ht.next; unfold pid; omega)⟩
  · (try simp only[↓jr,jw,seval,ji,ext_ext,pid_pid,ht.next])
    refine JCs.ret (s_normal3 hdu n hn hs c hc (by omega) i hok (fine_one n1 n3 n2'.1) (pid j.next 4) _ (by rw [ext_next]; unfold pid; simp; omega) (ext_get_new (k := 4) hnx)) ?_
    (try simp only[↓jr,jw,seval,ji,ext_ext,pid_pid,ht.next])
    refine JCs.ret (aw _) ?_
    (try simp only[↓jr,jw,seval,ji,ext_ext,pid_pid,ht.next])
    refine JFIN.ret (JDropH.back ht).of_ext SubB.v
end
end Go.Proofs.YtnkkeenclhncmaaDoor.Pg
