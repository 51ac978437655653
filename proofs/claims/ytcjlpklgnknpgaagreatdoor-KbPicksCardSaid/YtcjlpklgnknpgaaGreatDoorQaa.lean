/-
  The code of the reader of concepts.
-/
import Derived.Test.YtcjlpklgnknpgaaGreatDoorLg
import Derived.Test.YtcjlpklgnknpgaaGreatDoorPgX
set_option linter.unusedVariables false
set_option linter.unusedSimpArgs false
set_option linter.defProp false
set_option maxRecDepth 100000
set_option maxHeartbeats 4000000
namespace Go.Proofs.YtcjlpklgnknpgaaGreatDoor.Pg
open Go
section
open Go
noncomputable def ir41 : IFn := ⟨9, [⟨4, none⟩], (.seq (.reg [oA 4 (.mov (.k (.v (.pointer none))))]) (.seq (.reg [oA 5 (kM 1), oA 6 (kM 0), oA 7 (.build [.v .nilFunc, .sl .nil 0 [], .v (.bool false), .sl .nil 0 []] [(0, (1, .r 5)), (1, (1, .r 6))]), oA 8 (.box 102 (.r 7)), oA 4 (kM 8)]) .ret))⟩
theorem c41 : cfunc Tryz.prog 41 = some ir41 := by kernel_rfl
noncomputable def ir42 : IFn := ⟨65, [⟨4, none⟩], (.seq (.reg [oA 4 (.mov (.k (.sl .nil 0 [])))]) (.seq (.reg [oA 5 (.mov (.k (.sl .nil 0 [])))]) (.seq (.seq (.reg [oA 6 (.mov (kI 0))]) (.block 0 (.loop (.seq (.seq (.reg [oA 8 (kM 6), oA 9 (kM 0), oT 10 9 (.lens (.r 9)), oA 11 (.bin .lss (.r 8) (.r 10))]) (.cond (.r 11) .skip (.exit 0))) (.block 1 (.block 2 (.seq (.reg [oA 15 (kM 0), oA 16 (kM 6), oA 17 (.idxs (.r 15) (.r 16)), oA 18 (.bin .eql (.r 17) (.k (.v (.int .u8 32)))), oA 14 (kM 18)]) (.cond (.r 14) (.reg [oA 19 (kM 6), oA 20 (.bin .add (.r 19) (kI 1)), oA 6 (kM 20)]) (.seq (.reg [oA 22 (kM 0), oA 23 (kM 6), oA 24 (.idxs (.r 22) (.r 23)), oT 25 24 (.call 77 [.r 24]), oA 21 (kM 25)]) (.cond (.r 21) (.seq (.reg [oA 26 (kM 6), oA 7 (kM 26)]) (.seq (.block 3 (.loop (.seq (.seq (.reg [oA 27 (kM 7), oA 28 (kM 0), oT 29 28 (.lens (.r 28)), oA 30 (.bin .lss (.r 27) (.r 29)), oA 31 (kM 30), ⟨(some 32), (some ((31, true))), none, (kM 0)⟩, ⟨(some 33), (some ((31, true))), none, (kM 7)⟩, ⟨(some 34), (some ((31, true))), none, (.idxs (.r 32) (.r 33))⟩, ⟨(some 35), (some ((31, true))), (some (.r 34)), (.call 78 [.r 34])⟩, oA 36 (.pick (.r 31) (.r 35) (kB false))]) (.cond (.r 36) .skip (.exit 3))) (.block 4 (.reg [oA 37 (kM 7), oA 38 (.bin .add (.r 37) (kI 1)), oA 7 (kM 38)]))))) (.seq (.reg [oA 39 (kM 5), oA 40 (kM 0), oA 41 (kM 6), oA 42 (kM 7), oA 43 (.slcs (.r 40) (some (.r 41)) (some (.r 42))), oA 44 (.bsl 1 1 [.v (.string ⟨#[]⟩)] [(0, (1, .r 43))]), oA 45 (.app 1 16 (.r 39) (.r 44)), oA 5 (kM 45)]) (.reg [oA 46 (kM 7), oA 6 (kM 46)])))) (.seq (.reg [oA 48 (kM 1), oA 49 (kM 0), oA 50 (kM 6), oA 51 (.idxs (.r 49) (.r 50)), oA 52 (.call 79 [.r 48, .r 51]), oA 53 (.bin .geq (.r 52) (kI 0)), oA 47 (kM 53)]) (.cond (.r 47) (.seq (.reg [oA 54 (kM 5), oA 55 (kM 0), oA 56 (kM 6), oA 57 (kM 6), oA 58 (.bin .add (.r 57) (kI 1)), oA 59 (.slcs (.r 55) (some (.r 56)) (some (.r 58))), oA 60 (.bsl 1 1 [.v (.string ⟨#[]⟩)] [(0, (1, .r 59))]), oA 61 (.app 1 16 (.r 54) (.r 60)), oA 5 (kM 61)]) (.reg [oA 62 (kM 6), oA 63 (.bin .add (.r 62) (kI 1)), oA 6 (kM 63)])) (.reg [oA 12 (.build [] []), oA 13 (.mki 89 (.r 12)), oN (.pan (.r 13))]))))))))))))) (.seq (.reg [oA 64 (kM 5), oA 4 (kM 64)]) .ret))))⟩
theorem c42 : cfunc Tryz.prog 42 = some ir42 := by kernel_rfl
theorem k42 : okIR (max 2 ir42.n) ir42.ir = true := by decide +kernel
noncomputable def ir127 : IFn := ⟨101, [⟨2, none⟩], (.seq (.reg [oA 2 (.mov (.k (.v (.pointer none))))]) (.seq (.reg [oA 5 (.build [.v (.int .i64 0), .v (.int .i64 0), .sl .nil 0 [], .sl .nil 0 []] []), oA 6 (.box 196 (.r 5)), oA 3 (.alloc 180 [.v (.pointer none)]), oN (.store 1 (.r 3) (.r 6))]) (.seq (.block 0 (.seq (.reg [oA 17 (kM 0), oA 18 (.call 80 [.r 17, .k (.v (.string ⟨#[116, 111, 112]⟩))]), oA 16 (kM 18)]) (.cond (.r 16) (.reg [oL 19 3 none, oA 20 (.nchk (.r 19)), oA 21 (.fadr 0 (.r 20)), oA 22 (.fadr 0 (.r 21)), oN (.store 1 (.r 22) (kI 1))]) (.seq (.reg [oA 24 (kM 0), oA 25 (.call 80 [.r 24, .k (.v (.string ⟨#[98, 111, 116]⟩))]), oA 23 (kM 25)]) (.cond (.r 23) (.reg [oL 26 3 none, oA 27 (.nchk (.r 26)), oA 28 (.fadr 0 (.r 27)), oA 29 (.fadr 0 (.r 28)), oN (.store 1 (.r 29) (kI 2))]) (.seq (.reg [oA 31 (kM 0), oA 32 (.call 80 [.r 31, .k (.v (.string ⟨#[110, 111, 116]⟩))]), oA 30 (kM 32)]) (.cond (.r 30) (.seq (.reg [oL 33 3 none, oA 34 (.nchk (.r 33)), oA 35 (.fadr 0 (.r 34)), oA 36 (.fadr 0 (.r 35)), oN (.store 1 (.r 36) (kI 3))]) (.drawP [oL 37 3 none, oA 38 (kM 0), oT 39 38 (.call 127 [.r 38]), oA 40 (.bsl 1 1 [.v (.pointer none)] [(0, (1, .r 39))]), oA 41 (.nchk (.r 37)), oA 42 (.fadr 3 (.r 41)), oN (.store 1 (.r 42) (.r 40))] [(0, 2)] 2)) (.seq (.reg [oA 44 (kM 0), oA 45 (.call 80 [.r 44, .k (.v (.string ⟨#[40]⟩))]), oA 43 (kM 45)]) (.cond (.r 43) (.seq (.reg [oA 46 (kM 0), oT 47 46 (.call 127 [.r 46]), oA 4 (kM 47)]) (.seq (.reg [oL 48 3 none, oA 49 (.nchk (.r 48)), oA 50 (.fadr 0 (.r 49)), oA 51 (.fadr 0 (.r 50)), oN (.store 1 (.r 51) (kI 4))]) (.seq (.seq (.reg [oA 52 (kM 0), oA 53 (.call 80 [.r 52, .k (.v (.string ⟨#[97, 110, 100]⟩))]), oA 54 (.not (.r 53))]) (.cond (.r 54) (.seq (.reg [oA 55 (kM 0), oA 56 (.call 114 [.r 55, .k (.v (.string ⟨#[111, 114]⟩))])]) (.reg [oL 57 3 none, oA 58 (.nchk (.r 57)), oA 59 (.fadr 0 (.r 58)), oA 60 (.fadr 0 (.r 59)), oN (.store 1 (.r 60) (kI 5))])) .skip)) (.seq (.drawP [oL 61 3 none, oA 62 (kM 4), oA 63 (kM 0), oT 64 63 (.call 127 [.r 63]), oA 65 (.bsl 2 1 [.v (.pointer none)] [(0, (1, .r 62)), (1, (1, .r 64))]), oA 66 (.nchk (.r 61)), oA 67 (.fadr 3 (.r 66)), oN (.store 1 (.r 67) (.r 65))] [(0, 3)] 3) (.reg [oA 68 (kM 0), oA 69 (.call 114 [.r 68, .k (.v (.string ⟨#[41]⟩))])]))))) (.seq (.reg [oA 71 (kM 0), oT 72 71 (.call 44 [.r 71]), oA 73 (.bin .eql (.r 72) (.k (.v (.string ⟨#[115, 111, 109, 101]⟩)))), oA 74 (kM 73), ⟨(some 75), (some ((74, false))), none, (kM 0)⟩, ⟨(some 76), (some ((74, false))), (some (.r 75)), (.call 44 [.r 75])⟩, ⟨(some 77), (some ((74, false))), none, (.bin .eql (.r 76) (.k (.v (.string ⟨#[97, 108, 108]⟩))))⟩, oA 78 (.pick (.r 74) (kB true) (.r 77)), oA 70 (kM 78)]) (.cond (.r 70) (.seq (.reg [oL 79 3 none, oA 80 (.nchk (.r 79)), oA 81 (.fadr 0 (.r 80)), oA 82 (.fadr 0 (.r 81)), oN (.store 1 (.r 82) (kI 6))]) (.seq (.seq (.reg [oA 83 (kM 0), oA 84 (.call 80 [.r 83, .k (.v (.string ⟨#[97, 108, 108]⟩))])]) (.cond (.r 84) (.reg [oL 85 3 none, oA 86 (.nchk (.r 85)), oA 87 (.fadr 0 (.r 86)), oA 88 (.fadr 0 (.r 87)), oN (.store 1 (.r 88) (kI 7))]) (.reg [oA 89 (kM 0), oA 90 (.call 114 [.r 89, .k (.v (.string ⟨#[115, 111, 109, 101]⟩))])]))) (.seq (.reg [oA 91 (kM 0), oA 92 (.mkf (.func 157) [] [.r 3]), oA 93 (.call 112 [.r 91, .r 92])]) (.drawP [oL 94 3 none, oA 95 (kM 0), oT 96 95 (.call 127 [.r 95]), oA 97 (.bsl 1 1 [.v (.pointer none)] [(0, (1, .r 96))]), oA 98 (.nchk (.r 94)), oA 99 (.fadr 3 (.r 98)), oN (.store 1 (.r 99) (.r 97))] [(0, 2)] 2)))) (.seq (.reg [oL 7 3 none, oA 8 (.nchk (.r 7)), oA 9 (.fadr 0 (.r 8)), oA 10 (.fadr 0 (.r 9)), oN (.store 1 (.r 10) (kI 0))]) (.reg [oA 11 (kM 0), oA 12 (kM 0), oT 13 12 (.call 81 [.r 12]), oA 14 (.mkf (.func 159) [] [.r 3]), oA 15 (.call 121 [.r 11, .r 13, .k (.fn (.func 158) [] []), .r 14])]))))))))))))) (.seq (.reg [oL 100 3 none, oA 2 (kM 100)]) .ret))))⟩
theorem c127 : cfunc Tryz.prog 127 = some ir127 := by kernel_rfl
noncomputable def ir157 : IFn := ⟨8, [], (.reg [oL 3 1 none, oA 4 (kM 0), oA 5 (.nchk (.r 3)), oA 6 (.fadr 0 (.r 5)), oA 7 (.fadr 1 (.r 6)), oN (.store 1 (.r 7) (.r 4))])⟩
theorem c157 : cfunc Tryz.prog 157 = some ir157 := by kernel_rfl
noncomputable def ir158 : IFn := ⟨5, [⟨2, none⟩], (.seq (.reg [oA 1 (.box 24 (.r 0)), oA 2 (.mov (.k (.sl .nil 0 [])))]) (.seq (.reg [oA 3 (.fadr 0 (.r 1)), oL 4 3 none, oA 2 (kM 4)]) .ret))⟩
theorem c158 : cfunc Tryz.prog 158 = some ir158 := by kernel_rfl
noncomputable def ir159 : IFn := ⟨8, [], (.reg [oL 3 1 none, oA 4 (kM 0), oA 5 (.nchk (.r 3)), oA 6 (.fadr 0 (.r 5)), oA 7 (.fadr 1 (.r 6)), oN (.store 1 (.r 7) (.r 4))])⟩
theorem c159 : cfunc Tryz.prog 159 = some ir159 := by kernel_rfl
noncomputable def ir44 : IFn := ⟨15, [⟨2, none⟩], (.seq (.reg [oA 2 (.mov (.k (.v (.string ⟨#[]⟩))))]) (.seq (.seq (.reg [oA 3 (kM 0), oA 4 (.nchk (.r 3)), oA 5 (.fadr 1 (.r 4)), oL 6 5 none, oT 7 6 (.lenl (.r 6)), oA 8 (.bin .eql (.r 7) (kI 0))]) (.cond (.r 8) (.seq (.reg [oA 2 (.mov (.k (.v (.string ⟨#[]⟩))))]) .ret) .skip)) (.seq (.reg [oA 9 (kM 0), oA 10 (.nchk (.r 9)), oA 11 (.fadr 1 (.r 10)), oL 12 11 none, oA 13 (.iasl 1 (.r 12) (kI 0)), oL 14 13 none, oA 2 (kM 14)]) .ret)))⟩
theorem c44 : cfunc Tryz.prog 44 = some ir44 := by kernel_rfl
noncomputable def ir80 : IFn := ⟨17, [⟨4, none⟩], (.seq (.reg [oA 4 (.mov (kB false))]) (.seq (.seq (.reg [oA 5 (kM 0), oT 6 5 (.call 44 [.r 5]), oA 7 (kM 1), oA 8 (.bin .neq (.r 6) (.r 7))]) (.cond (.r 8) (.seq (.reg [oA 4 (.mov (kB false))]) .ret) .skip)) (.seq (.reg [oA 9 (kM 0), oA 10 (kM 0), oA 11 (.nchk (.r 10)), oA 12 (.fadr 1 (.r 11)), oL 13 12 none, oA 14 (.slc 1 (.r 13) (some (kI 1)) none), oA 15 (.nchk (.r 9)), oA 16 (.fadr 1 (.r 15)), oN (.store 1 (.r 16) (.r 14))]) (.seq (.reg [oA 4 (.mov (kB true))]) .ret))))⟩
theorem c80 : cfunc Tryz.prog 80 = some ir80 := by kernel_rfl
noncomputable def ir114 : IFn := ⟨10, [], (.seq (.reg [oA 4 (kM 0), oA 5 (kM 1), oA 6 (.call 80 [.r 4, .r 5]), oA 7 (.not (.r 6))]) (.cond (.r 7) (.reg [oA 8 (.build [] []), oA 9 (.mki 89 (.r 8)), oN (.pan (.r 9))]) .skip))⟩
theorem c114 : cfunc Tryz.prog 114 = some ir114 := by kernel_rfl
noncomputable def ir81 : IFn := ⟨31, [⟨2, none⟩], (.seq (.reg [oA 2 (.mov (.k (.v (.string ⟨#[]⟩))))]) (.seq (.reg [oA 4 (kM 0), oT 5 4 (.call 44 [.r 4]), oA 3 (kM 5)]) (.seq (.seq (.reg [oA 6 (kM 3), oA 7 (.bin .eql (.r 6) (.k (.v (.string ⟨#[]⟩)))), oA 8 (kM 7), ⟨(some 9), (some ((8, false))), none, (kM 3)⟩, ⟨(some 10), (some ((8, false))), none, (.idxs (.r 9) (kI 0))⟩, ⟨(some 11), (some ((8, false))), (some (.r 10)), (.call 77 [.r 10])⟩, ⟨(some 12), (some ((8, false))), none, (.not (.r 11))⟩, oA 13 (.pick (.r 8) (kB true) (.r 12)), oA 14 (kM 13), ⟨(some 15), (some ((14, false))), none, (kM 3)⟩, ⟨(some 16), (some ((14, false))), none, (.bin .add (.k (.v (.string ⟨#[32]⟩))) (.r 15))⟩, ⟨(some 17), (some ((14, false))), none, (.bin .add (.r 16) (.k (.v (.string ⟨#[32]⟩))))⟩, ⟨(some 18), (some ((14, false))), none, (.call 110 [.k (.v (.string ⟨#[32, 116, 111, 112, 32, 98, 111, 116, 32, 110, 111, 116, 32, 97, 110, 100, 32, 111, 114, 32, 115, 111, 109, 101, 32, 97, 108, 108, 32, 99, 111, 110, 99, 101, 112, 116, 32, 114, 111, 108, 101, 32, 105, 110, 100, 32]⟩)), .r 17])⟩, oA 19 (.pick (.r 14) (kB true) (.r 18))]) (.cond (.r 19) (.reg [oA 20 (.build [] []), oA 21 (.mki 89 (.r 20)), oN (.pan (.r 21))]) .skip)) (.seq (.reg [oA 22 (kM 0), oA 23 (kM 0), oA 24 (.nchk (.r 23)), oA 25 (.fadr 1 (.r 24)), oL 26 25 none, oA 27 (.slc 1 (.r 26) (some (kI 1)) none), oA 28 (.nchk (.r 22)), oA 29 (.fadr 1 (.r 28)), oN (.store 1 (.r 29) (.r 27))]) (.seq (.reg [oA 30 (kM 3), oA 2 (kM 30)]) .ret)))))⟩
theorem c81 : cfunc Tryz.prog 81 = some ir81 := by kernel_rfl
noncomputable def ir121 : IFn := ⟨18, [], (.seq (.reg [oA 4 (.box 94 (.r 0)), oA 5 (.box 9 (.r 1)), oA 6 (.box 178 (.r 2)), oA 7 (.box 174 (.r 3))]) (.draw [oL 8 4 none, oL 9 4 none, oA 10 (.nchk (.r 9)), oA 11 (.fadr 3 (.r 10)), oL 12 11 none, oA 13 (.mkf (.func 155) [] [.r 6, .r 4, .r 5, .r 7]), oA 14 (.bsl 1 1 [.v .nilFunc] [(0, (1, .r 13))]), oA 15 (.app 1 8 (.r 12) (.r 14)), oA 16 (.nchk (.r 8)), oA 17 (.fadr 3 (.r 16)), oN (.store 1 (.r 17) (.r 15))] [(0, 7)]))⟩
theorem c121 : cfunc Tryz.prog 121 = some ir121 := by kernel_rfl
noncomputable def ir155 : IFn := ⟨22, [], (.seq (.draw [oL 5 0 none, oL 6 1 none, oA 7 (.nchk (.r 6)), oA 8 (.fadr 0 (.r 7)), oL 9 8 none, oA 10 (.callv (.r 9) []), oT 11 10 (.callv (.r 5) [.r 10]), oL 12 2 none, oA 13 (.call 156 [.r 11, .r 12]), oA 4 (kM 13)] [(0, 5), (7, 5), (7, 6)]) (.seq (.seq (.reg [oA 14 (kM 4), oA 15 (.bin .lss (.r 14) (kI 0))]) (.cond (.r 15) (.seq (.reg [oL 16 1 none, oA 17 (.nchk (.r 16)), oA 18 (.fadr 2 (.r 17)), oN (.store 1 (.r 18) (kB true))]) .ret) .skip)) (.reg [oL 19 3 none, oA 20 (kM 4), oT 21 20 (.callv (.r 19) [.r 20])])))⟩
theorem c155 : cfunc Tryz.prog 155 = some ir155 := by kernel_rfl
noncomputable def ir112 : IFn := ⟨14, [], (.seq (.reg [oA 3 (.box 174 (.r 1))]) (.seq (.reg [oA 6 (kM 0), oT 7 6 (.call 81 [.r 6]), oA 4 (kM 7)]) (.seq (.reg [oA 5 (.alloc 3 [.v (.int .i64 0)]), oN (.store 1 (.r 5) (kI 0))]) (.seq (.seq (.reg [oA 8 (kM 0), oA 9 (.call 80 [.r 8, .k (.v (.string ⟨#[45]⟩))])]) (.cond (.r 9) (.reg [oN (.store 1 (.r 5) (kI 1))]) .skip)) (.reg [oA 10 (kM 0), oA 11 (kM 4), oA 12 (.mkf (.func 153) [] [.r 3, .r 5]), oA 13 (.call 121 [.r 10, .r 11, .k (.fn (.func 152) [] []), .r 12])])))))⟩
theorem c112 : cfunc Tryz.prog 112 = some ir112 := by kernel_rfl
noncomputable def ir152 : IFn := ⟨5, [⟨2, none⟩], (.seq (.reg [oA 1 (.box 24 (.r 0)), oA 2 (.mov (.k (.sl .nil 0 [])))]) (.seq (.reg [oA 3 (.fadr 1 (.r 1)), oL 4 3 none, oA 2 (kM 4)]) .ret))⟩
theorem c152 : cfunc Tryz.prog 152 = some ir152 := by kernel_rfl
noncomputable def ir153 : IFn := ⟨10, [], (.reg [oL 4 1 none, oA 5 (kM 0), oA 6 (.bin .mul (kI 2) (.r 5)), oL 7 2 none, oA 8 (.bin .add (.r 6) (.r 7)), oT 9 8 (.callv (.r 4) [.r 8])])⟩
theorem c153 : cfunc Tryz.prog 153 = some ir153 := by kernel_rfl
noncomputable def ir47 : IFn := ⟨19, [], (.seq (.seq (.reg [oA 4 (kM 0), oA 5 (.nchk (.r 4)), oA 6 (.fadr 3 (.r 5)), oL 7 6 none, oT 8 7 (.lenl (.r 7)), oA 9 (.mov (kI 0))]) (.block 0 (.loop (.seq (.reg [oA 10 (.bin .lss (.r 9) (.r 8))]) (.seq (.cond (.r 10) .skip (.exit 0)) (.seq (.block 1 (.seq (.reg [oA 11 (.iasl 1 (.r 7) (.r 9)), oL 12 11 none, oA 3 (kM 12)]) (.reg [oA 13 (kM 3), oA 14 (.callv (.r 13) [])]))) (.reg [oA 15 (.bin .add (.r 9) (kI 1)), oA 9 (kM 15)]))))))) (.reg [oA 16 (kM 0), oA 17 (.nchk (.r 16)), oA 18 (.fadr 3 (.r 17)), oN (.store 1 (.r 18) (.k (.sl .nil 0 [])))]))⟩
theorem c47 : cfunc Tryz.prog 47 = some ir47 := by kernel_rfl
noncomputable def ir129 : IFn := ⟨28, [⟨2, (some (some 3))⟩], (.seq (.reg [oA 2 (.alloc 71 [.v (.int .i64 0), .v (.int .i64 0), .sl .nil 0 []])]) (.seq (.reg [oA 6 (kM 0), oA 7 (.nchk (.r 6)), oA 8 (.fadr 0 (.r 7)), oL 9 8 (some 3), oA 3 (.alloc 71 [.v (.int .i64 0), .v (.int .i64 0), .sl .nil 0 []]), oN (.store 3 (.r 3) (.r 9))]) (.seq (.seq (.reg [oA 10 (kM 0), oA 11 (.nchk (.r 10)), oA 12 (.fadr 3 (.r 11)), oL 13 12 none, oT 14 13 (.lenl (.r 13)), oA 15 (.mov (kI 0))]) (.block 0 (.loop (.seq (.reg [oA 16 (.bin .lss (.r 15) (.r 14))]) (.seq (.cond (.r 16) .skip (.exit 0)) (.seq (.block 1 (.seq (.reg [oA 17 (.iasl 1 (.r 13) (.r 15)), oL 18 17 none, oA 5 (kM 18)]) (.draw [oA 19 (.fadr 2 (.r 3)), oL 20 19 none, oA 21 (kM 5), oT 22 21 (.call 129 [.r 21]), oA 23 (.bsl 1 3 [.v (.int .i64 0), .v (.int .i64 0), .sl .nil 0 []] [(0, (3, .r 22))]), oA 24 (.app 3 40 (.r 20) (.r 23)), oA 25 (.fadr 2 (.r 3)), oN (.store 1 (.r 25) (.r 24))] [(1, 3)]))) (.reg [oA 26 (.bin .add (.r 15) (kI 1)), oA 15 (kM 26)]))))))) (.seq (.reg [oL 27 3 (some 3), oN (.store 3 (.r 2) (.r 27))]) .ret))))⟩
theorem c129 : cfunc Tryz.prog 129 = some ir129 := by kernel_rfl
noncomputable def ir156 : IFn := ⟨19, [⟨4, none⟩], (.seq (.reg [oA 4 (.mov (kI 0))]) (.seq (.seq (.reg [oA 6 (kM 0), oT 7 6 (.lenl (.r 6)), oA 8 (.mov (kI 0))]) (.block 0 (.loop (.seq (.reg [oA 9 (.bin .lss (.r 8) (.r 7))]) (.seq (.cond (.r 9) .skip (.exit 0)) (.seq (.block 1 (.seq (.reg [oA 10 (kM 8), oA 5 (kM 10)]) (.seq (.reg [oA 11 (kM 1), oA 12 (kM 0), oA 13 (kM 5), oA 14 (.iasl 1 (.r 12) (.r 13)), oL 15 14 none, oA 16 (.bin .eql (.r 11) (.r 15))]) (.cond (.r 16) (.seq (.reg [oA 17 (kM 5), oA 4 (kM 17)]) .ret) .skip)))) (.reg [oA 18 (.bin .add (.r 8) (kI 1)), oA 8 (kM 18)]))))))) (.seq (.reg [oA 4 (.mov (kI (-1)))]) .ret)))⟩
theorem c156 : cfunc Tryz.prog 156 = some ir156 := by kernel_rfl
end
section
open Go
section
theorem JC.call {P : Program} {G : Nat → Option (List AV)} {f : FuncId} {args : List AV} {h : AH} {Y : AV} (c : JC P G f args h.j (RET Y h.j)) : CALL P G f args h fun q k => q = .ret Y ∧ k = h :=
 fun B0 μ w vs r hv => (c h rfl B0 μ w vs r hv).mono fun _ _ ⟨o, h', ⟨e1, e2⟩, μ', st, p⟩ => ⟨.ret Y, h, ⟨rfl, rfl⟩, μ', Step.ext e2 st, by subst e1; exact p⟩
theorem JC.weakS {P : Program} {G : Nat → Option (List AV)} {f : FuncId} {xs ys : List AV} {j : JH} {Q : AOut → JH → Prop} (h : JC P G f ys j Q) (s : SubBs j.next j.tnext xs ys) : JC P G f xs j Q := fun hh e B0 μ w vs r hv => by
 have e1 : hh.next = j.next := congrArg JH.next e
 have e2 : hh.tnext = j.tnext := congrArg JH.tnext e
 refine h hh e B0 μ w vs r (SubBs.Vs s ⟨fun o => ?_, fun t => ?_, fun _ _ => Iff.rfl⟩ hv)
 ·split
  ·rfl
  ·exact r.next o (by omega)
 ·split
  ·rfl
  ·exact r.tnext t (by omega)
def decS : List AV → Option (List ByteArray)
 | [] => some []
 | .v (.string s) :: r => (decS r).map (s :: ·)
 | _ => none
theorem decS_eq : ∀ {cs : List AV} {l : List ByteArray}, decS cs = some l → cs = strs l
 | [], l, e => by simp only [decS, Option.some.injEq] at e; subst e; rfl
 | x :: cs, l, e => by
  unfold decS at e
  split at e
  ·rename_i q; cases q
  ·rename_i s r q
   cases q
   cases h : decS cs with
   | none => rw [h] at e; cases e
   | some l' => rw [h] at e; simp only [Option.map_some, Option.some.injEq] at e; subst e; rw [decS_eq h]; rfl
  ·cases e
def decN : List AV → Option Nms
 | [.sl _ a xs, .sl _ b ys, .sl _ c zs] => xo (decS xs) fun x => xo (decS ys) fun y => xo (decS zs) fun z => if a = x.length ∧ b = y.length ∧ c = z.length ∧ ((x ++ y ++ z).all fun s => decide (s.size < 1000)) = true ∧ x.length < 1000 ∧ y.length < 1000 ∧ z.length < 1000 then some ⟨x, y, z⟩ else none
 | _ => none
theorem decN_sub {no nt : Nat} {cs : List AV} {n : Nms} (e : decN cs = some n) : SubBs no nt cs n.enc ∧ n.ok ∧ n.short := by
 unfold decN at e
 split at e
 ·obtain ⟨x, e1, e⟩ := xo_some e
  obtain ⟨y, e2, e⟩ := xo_some e
  obtain ⟨z, e3, e⟩ := xo_some e
  split at e
  ·rename_i h
   simp only [Option.some.injEq] at e; subst e
   obtain ⟨h1, h2, h3, h4, h5, h6, h7⟩ := h
   rw [decS_eq e1, decS_eq e2, decS_eq e3]
   refine ⟨⟨SubB.sl h1 (SubBs.pure (strs_pur x)), SubB.sl h2 (SubBs.pure (strs_pur y)), SubB.sl h3 (SubBs.pure (strs_pur z)), trivial⟩, ⟨by simp only; omega, by simp only; omega, by simp only; omega⟩, fun l hl s hs => ?_⟩
   have := List.all_eq_true.1 h4 s
   simp only [Nms.lists, List.mem_cons, List.not_mem_nil, or_false] at hl
   have hm : s ∈ x ++ y ++ z := by
    simp only [List.mem_append]
    rcases hl with rfl | rfl | rfl
    ·exact .inl (.inl hs)
    ·exact .inl (.inr hs)
    ·exact .inr hs
   have := this hm
   simp only [decide_eq_true_eq] at this
   omega
  ·cases e
 ·cases e
variable {m : GM}
theorem s_IndexByte (s : ByteArray) (c : Int) {G : Nat → Option (List AV)} (j : JH) : JC Tryz.prog G 79 [STR s, U8 c] j (RET (I64 (Lib.indexByte (bs s) c.toNat.toUInt8)) j) := by
 refine JC.of_calls (vs := [.string s, .int .u8 c]) (u := .int .i64 (Lib.indexByte (bs s) c.toNat.toUInt8)) ?_ (fun _ _ => by simp [V, plain]) ?_
 ·intro μ w us hv
  simp only [Vs, V] at hv
  obtain ⟨u, us', rfl, ⟨_, rfl⟩, u2, us2, rfl, ⟨_, rfl⟩, rfl⟩ := hv
  rfl
 ·intro B0 μ h w r
  exact Tryz.strings_IndexByte s c w
def S1 (f : FuncId) : Option (List AV → AH → Option (AOut × AH)) :=
 if f = 71 then some fun args h => match args with
  | [.agg cs] => xo (decN cs) fun n => some (.ret (BOO (namesOK n)), h)
  | _ => none
 else if f = 79 then some fun args h => match args with
  | [.v (.string s), .v (.int .u8 c)] => some (.ret (I64 (Lib.indexByte (bs s) c.toNat.toUInt8)), h)
  | _ => none
 else if f = 110 then some fun args h => match args with
  | [.v (.string s), .v (.string t)] => if s.size < 4294967281 then some (.ret (BOO (Lib.contains (bs s) (bs t))), h) else none
  | _ => none
 else none
theorem S1_ok : Sok Tryz.prog (GG m) S1 := by
 intro f s hf args h o h' e
 unfold S1 at hf
 split at hf
 ·rename_i q; subst q; cases hf
  dsimp only at e
  split at e
  ·obtain ⟨n, e1, e⟩ := xo_some e
   cases e
   obtain ⟨h1, h2, h3⟩ := decN_sub (no := h.j.next) (nt := h.j.tnext) e1
   exact JC.call (JC.weakS (s_ValidNames n h2 h3 _) ⟨SubB.agg h1, trivial⟩)
  ·cases e
 ·split at hf
  ·rename_i q; subst q; cases hf
   dsimp only at e
   split at e
   ·cases e; exact JC.call (s_IndexByte _ _ _)
   ·cases e
  ·split at hf
   ·rename_i q; subst q; cases hf
    dsimp only at e
    split at e
    ·split at e
     ·cases e; exact JC.call (s_Contains _ _ _ (by assumption))
     ·cases e
    ·cases e
   ·cases hf
theorem S1_k : Sk S1 := by
 intro f s hf args h o h' e
 unfold S1 at hf
 split at hf
 ·cases hf
  dsimp only at e
  split at e
  ·obtain ⟨n, e1, e⟩ := xo_some e
   cases e; exact KL.refl _
  ·cases e
 ·split at hf
  ·cases hf
   dsimp only at e
   split at e
   ·cases e; exact KL.refl _
   ·cases e
  ·split at hf
   ·cases hf
    dsimp only at e
    split at e
    ·split at e
     ·cases e; exact KL.refl _
     ·cases e
    ·cases e
   ·cases hf
end
end
end Go.Proofs.YtcjlpklgnknpgaaGreatDoor.Pg
