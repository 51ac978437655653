/-
  concept.Sorted: the keys of a map, in increasing order, in new memory.
-/
import Derived.Test.YtcjlpklgnknpgaaGreatDoorLg
import Derived.Test.YtcjlpklgnknpgaaGreatDoorShelfS
import Derived.Test.YtcjlpklgnknpgaaGreatDoorPgX
import Derived.Sort.OwnSortedInts
import Derived.Sort.KeysCollected
import Derived.Maps.RangeWalk
import Derived.Maps.AppendAt
set_option linter.unusedVariables false
set_option linter.unusedSimpArgs false
set_option maxRecDepth 100000
set_option maxHeartbeats 8000000
namespace Go.Proofs.YtcjlpklgnknpgaaGreatDoor.Pg
open Go Go.Proofs Go.Shelf Go.RowKit Go.Lib Go.Sort Go.Maps
theorem keyed3 : Keyed Tryz.prog 3 := int_keyed Tryz.underlying3
/-- Which keys have been met. -/
def CollI {H : Type} (D0 : DataW H) (left : Lit → Bool) (ss : List Int) : Prop := ss.Nodup ∧ ∀ x, x ∈ ss ↔ (has D0 (.int .i64 x) = true ∧ left (.int .i64 x) = false)
theorem CollI.start {H : Type} (D0 : DataW H) : CollI D0 (has D0) [] := ⟨List.nodup_nil, fun x => by cases has D0 (.int .i64 x) <;> simp⟩
theorem CollI.step {H : Type} {D0 : DataW H} {left : Lit → Bool} {ss : List Int} (h : CollI D0 left ss) {x : Int} {y : DataW H} (hlk : left (.int .i64 x) = true) (hat : ∀ zd, D0.atKey (.int .i64 x) zd = y) : CollI D0 (fun z => left z && !z.sameKey (.int .i64 x)) (ss ++ [x]) := by
  have hhas : has D0 (.int .i64 x) = true := has_true_of_atKey hat
  have hnew : x ∉ ss := fun hx => by have := ((h.2 x).1 hx).2; rw [hlk] at this; cases this
  refine ⟨List.nodup_append.2 ⟨h.1, by simp, fun a ha b hb => by simp at hb; subst hb; exact fun e => hnew (e ▸ ha)⟩, fun y => ?_⟩
  by_cases hy : y = x
  · subst hy; simp [hhas, Lit.sameKey]
  · simp [h.2 y, hy, Lit.sameKey]
/-! ### An empty row -/
noncomputable def ir100 : IFn := ⟨11, [], (.seq (.reg [oA 3 (kM 0), oT 4 3 (.lenl (.r 3)), oA 2 (kM 4)]) (.reg [oA 5 (kM 0), oA 6 (kM 2), oA 7 (kM 2), oA 8 (.cvt .u64 (.r 7)), oT 9 8 (.call 145 [.r 8]), oA 10 (.call 144 [.r 5, .k (.v (.int .i64 0)), .r 6, .r 9])]))⟩
theorem c100 : cfunc Tryz.prog 100 = some ir100 := by kernel_rfl
noncomputable def ir144 : IFn := ⟨134, [], (.seq (.reg [oA 8 (.mov (kB true))]) (.seq (.reg [oA 9 (.mov (kB true))]) (.block 0 (.loop (.block 1 (.seq (.reg [oA 19 (kM 2), oA 20 (kM 1), oA 21 (.bin .sub (.r 19) (.r 20)), oA 10 (kM 21)]) (.seq (.seq (.reg [oA 22 (kM 10), oA 23 (.bin .leq (.r 22) (kI 12))]) (.cond (.r 23) (.seq (.reg [oA 24 (kM 0), oA 25 (kM 1), oA 26 (kM 2), oA 27 (.call 162 [.r 24, .r 25, .r 26])]) .ret) .skip)) (.seq (.seq (.reg [oA 28 (kM 3), oA 29 (.bin .eql (.r 28) (kI 0))]) (.cond (.r 29) (.seq (.reg [oA 30 (kM 0), oA 31 (kM 1), oA 32 (kM 2), oA 33 (.call 163 [.r 30, .r 31, .r 32])]) .ret) .skip)) (.seq (.seq (.reg [oA 34 (kM 8), oA 35 (.not (.r 34))]) (.cond (.r 35) (.seq (.reg [oA 36 (kM 0), oA 37 (kM 1), oA 38 (kM 2), oA 39 (.call 164 [.r 36, .r 37, .r 38])]) (.reg [oA 40 (kM 3), oA 41 (.bin .sub (.r 40) (kI 1)), oA 3 (kM 41)])) .skip)) (.seq (.reg [oA 43 (kM 0), oA 44 (kM 1), oA 45 (kM 2), oA 46 (.call 165 [.r 43, .r 44, .r 45]), oA 42 (kM 46), oA 47 (.ext (.r 42) 0), oA 48 (.ext (.r 42) 1), oA 11 (kM 47), oA 12 (kM 48)]) (.seq (.seq (.reg [oA 49 (kM 12), oA 50 (.bin .eql (.r 49) (kI 2))]) (.cond (.r 50) (.seq (.reg [oA 51 (kM 0), oA 52 (kM 1), oA 53 (kM 2), oA 54 (.call 166 [.r 51, .r 52, .r 53])]) (.seq (.reg [oA 55 (kM 2), oA 56 (.bin .sub (.r 55) (kI 1)), oA 57 (kM 11), oA 58 (kM 1), oA 59 (.bin .sub (.r 57) (.r 58)), oA 60 (.bin .sub (.r 56) (.r 59)), oA 11 (kM 60)]) (.reg [oA 12 (.mov (kI 1))]))) .skip)) (.seq (.seq (.reg [oA 61 (kM 8), oA 62 (kM 61), ⟨(some 63), (some ((62, true))), none, (kM 9)⟩, oA 64 (.pick (.r 62) (.r 63) (kB false)), oA 65 (kM 64), ⟨(some 66), (some ((65, true))), none, (kM 12)⟩, ⟨(some 67), (some ((65, true))), none, (.bin .eql (.r 66) (kI 1))⟩, oA 68 (.pick (.r 65) (.r 67) (kB false))]) (.cond (.r 68) (.seq (.reg [oA 69 (kM 0), oA 70 (kM 1), oA 71 (kM 2), oA 72 (.call 167 [.r 69, .r 70, .r 71])]) (.cond (.r 72) .ret .skip)) .skip)) (.seq (.seq (.draw [oA 73 (kM 1), oA 74 (.bin .gtr (.r 73) (kI 0)), oA 75 (kM 74), ⟨(some 76), (some ((75, true))), none, (kM 0)⟩, ⟨(some 77), (some ((75, true))), none, (kM 1)⟩, ⟨(some 78), (some ((75, true))), none, (.bin .sub (.r 77) (kI 1))⟩, ⟨(some 79), (some ((75, true))), none, (.iasl 1 (.r 76) (.r 78))⟩, ⟨(some 80), (some ((75, true))), (some (.r 79)), (.load none (.r 79))⟩, ⟨(some 81), (some ((75, true))), none, (kM 0)⟩, ⟨(some 82), (some ((75, true))), none, (kM 11)⟩, ⟨(some 83), (some ((75, true))), none, (.iasl 1 (.r 81) (.r 82))⟩, ⟨(some 84), (some ((75, true))), (some (.r 83)), (.load none (.r 83))⟩, ⟨(some 85), (some ((75, true))), none, (.call 168 [.r 80, .r 84])⟩, ⟨(some 86), (some ((75, true))), none, (.not (.r 85))⟩, oA 87 (.pick (.r 75) (.r 86) (kB false))] []) (.cond (.r 87) (.seq (.reg [oA 88 (kM 0), oA 89 (kM 1), oA 90 (kM 2), oA 91 (kM 11), oA 92 (.call 169 [.r 88, .r 89, .r 90, .r 91]), oA 13 (kM 92)]) (.seq (.reg [oA 93 (kM 13), oA 1 (kM 93)]) (.exit 1))) .skip)) (.seq (.reg [oA 95 (kM 0), oA 96 (kM 1), oA 97 (kM 2), oA 98 (kM 11), oA 99 (.call 170 [.r 95, .r 96, .r 97, .r 98]), oA 94 (kM 99), oA 100 (.ext (.r 94) 0), oA 101 (.ext (.r 94) 1), oA 14 (kM 100), oA 15 (kM 101)]) (.seq (.reg [oA 102 (kM 15), oA 9 (kM 102)]) (.seq (.reg [oA 103 (kM 14), oA 104 (kM 1), oA 105 (.bin .sub (.r 103) (.r 104)), oA 106 (kM 2), oA 107 (kM 14), oA 108 (.bin .sub (.r 106) (.r 107)), oA 16 (kM 105), oA 17 (kM 108)]) (.seq (.reg [oA 109 (kM 10), oA 110 (.bin .quo (.r 109) (kI 8)), oA 18 (kM 110)]) (.seq (.reg [oA 111 (kM 16), oA 112 (kM 17), oA 113 (.bin .lss (.r 111) (.r 112))]) (.cond (.r 113) (.seq (.reg [oA 114 (kM 16), oA 115 (kM 18), oA 116 (.bin .geq (.r 114) (.r 115)), oA 8 (kM 116)]) (.seq (.reg [oA 117 (kM 0), oA 118 (kM 1), oA 119 (kM 14), oA 120 (kM 3), oA 121 (.call 144 [.r 117, .r 118, .r 119, .r 120])]) (.reg [oA 122 (kM 14), oA 123 (.bin .add (.r 122) (kI 1)), oA 1 (kM 123)]))) (.seq (.reg [oA 124 (kM 17), oA 125 (kM 18), oA 126 (.bin .geq (.r 124) (.r 125)), oA 8 (kM 126)]) (.seq (.reg [oA 127 (kM 0), oA 128 (kM 14), oA 129 (.bin .add (.r 128) (kI 1)), oA 130 (kM 2), oA 131 (kM 3), oA 132 (.call 144 [.r 127, .r 129, .r 130, .r 131])]) (.reg [oA 133 (kM 14), oA 2 (kM 133)]))))))))))))))))))))))⟩
theorem c144 : cfunc Tryz.prog 144 = some ir144 := by kernel_rfl
noncomputable def ir162 : IFn := ⟨49, [], (.seq (.reg [oA 8 (kM 1), oA 9 (.bin .add (.r 8) (kI 1)), oA 6 (kM 9)]) (.block 0 (.loop (.seq (.seq (.reg [oA 10 (kM 6), oA 11 (kM 2), oA 12 (.bin .lss (.r 10) (.r 11))]) (.cond (.r 12) .skip (.exit 0))) (.seq (.block 1 (.seq (.reg [oA 15 (kM 6), oA 7 (kM 15)]) (.block 2 (.loop (.seq (.seq (.draw [oA 16 (kM 7), oA 17 (kM 1), oA 18 (.bin .gtr (.r 16) (.r 17)), oA 19 (kM 18), ⟨(some 20), (some ((19, true))), none, (kM 0)⟩, ⟨(some 21), (some ((19, true))), none, (kM 7)⟩, ⟨(some 22), (some ((19, true))), none, (.iasl 1 (.r 20) (.r 21))⟩, ⟨(some 23), (some ((19, true))), (some (.r 22)), (.load none (.r 22))⟩, ⟨(some 24), (some ((19, true))), none, (kM 0)⟩, ⟨(some 25), (some ((19, true))), none, (kM 7)⟩, ⟨(some 26), (some ((19, true))), none, (.bin .sub (.r 25) (kI 1))⟩, ⟨(some 27), (some ((19, true))), none, (.iasl 1 (.r 24) (.r 26))⟩, ⟨(some 28), (some ((19, true))), (some (.r 27)), (.load none (.r 27))⟩, ⟨(some 29), (some ((19, true))), none, (.call 168 [.r 23, .r 28])⟩, oA 30 (.pick (.r 19) (.r 29) (kB false))] []) (.cond (.r 30) .skip (.exit 2))) (.seq (.block 3 (.draw [oA 33 (kM 0), oA 34 (kM 7), oA 35 (kM 0), oA 36 (kM 7), oA 37 (.bin .sub (.r 36) (kI 1)), oA 38 (kM 0), oA 39 (kM 7), oA 40 (.bin .sub (.r 39) (kI 1)), oA 41 (.iasl 1 (.r 38) (.r 40)), oL 42 41 none, oA 43 (kM 0), oA 44 (kM 7), oA 45 (.iasl 1 (.r 43) (.r 44)), oL 46 45 none, oA 47 (.iasl 1 (.r 33) (.r 34)), oN (.store 1 (.r 47) (.r 42)), oA 48 (.iasl 1 (.r 35) (.r 37)), oN (.store 1 (.r 48) (.r 46))] [])) (.reg [oA 31 (kM 7), oA 32 (.bin .sub (.r 31) (kI 1)), oA 7 (kM 32)]))))))) (.reg [oA 13 (kM 6), oA 14 (.bin .add (.r 13) (kI 1)), oA 6 (kM 14)]))))))⟩
theorem c162 : cfunc Tryz.prog 162 = some ir162 := by kernel_rfl
noncomputable def ir145 : IFn := ⟨8, [⟨2, none⟩], (.seq (.reg [oA 2 (.mov (kI 0))]) (.seq (.cond (kB false) (.seq (.reg [oA 3 (kM 0), oA 4 (.cvt .u32 (.r 3)), oT 5 4 (.call 171 [.r 4]), oA 2 (kM 5)]) .ret) .skip) (.seq (.reg [oA 6 (kM 0), oT 7 6 (.call 172 [.r 6]), oA 2 (kM 7)]) .ret)))⟩
theorem c145 : cfunc Tryz.prog 145 = some ir145 := by kernel_rfl
noncomputable def ir172 : IFn := ⟨25, [⟨2, none⟩], (.seq (.reg [oA 2 (.mov (kI 0))]) (.seq (.seq (.reg [oA 3 (kM 0), oA 4 (.bin .geq (.r 3) (.k (.v (.int .u64 4294967296))))]) (.cond (.r 4) (.seq (.reg [oA 5 (kM 0), oA 6 (.bin .shr (.r 5) (.k (.v (.int .u64 32)))), oA 0 (kM 6)]) (.reg [oA 2 (.mov (kI 32))])) .skip)) (.seq (.seq (.reg [oA 7 (kM 0), oA 8 (.bin .geq (.r 7) (.k (.v (.int .u64 65536))))]) (.cond (.r 8) (.seq (.reg [oA 9 (kM 0), oA 10 (.bin .shr (.r 9) (.k (.v (.int .u64 16)))), oA 0 (kM 10)]) (.reg [oA 11 (kM 2), oA 12 (.bin .add (.r 11) (kI 16)), oA 2 (kM 12)])) .skip)) (.seq (.seq (.reg [oA 13 (kM 0), oA 14 (.bin .geq (.r 13) (.k (.v (.int .u64 256))))]) (.cond (.r 14) (.seq (.reg [oA 15 (kM 0), oA 16 (.bin .shr (.r 15) (.k (.v (.int .u64 8)))), oA 0 (kM 16)]) (.reg [oA 17 (kM 2), oA 18 (.bin .add (.r 17) (kI 8)), oA 2 (kM 18)])) .skip)) (.seq (.reg [oA 19 (kM 2), oA 20 (kM 0), oA 21 (.cvt .u8 (.r 20)), oA 22 (.idxs (.k (.v (.string ⟨#[0, 1, 2, 2, 3, 3, 3, 3, 4, 4, 4, 4, 4, 4, 4, 4, 5, 5, 5, 5, 5, 5, 5, 5, 5, 5, 5, 5, 5, 5, 5, 5, 6, 6, 6, 6, 6, 6, 6, 6, 6, 6, 6, 6, 6, 6, 6, 6, 6, 6, 6, 6, 6, 6, 6, 6, 6, 6, 6, 6, 6, 6, 6, 6, 7, 7, 7, 7, 7, 7, 7, 7, 7, 7, 7, 7, 7, 7, 7, 7, 7, 7, 7, 7, 7, 7, 7, 7, 7, 7, 7, 7, 7, 7, 7, 7, 7, 7, 7, 7, 7, 7, 7, 7, 7, 7, 7, 7, 7, 7, 7, 7, 7, 7, 7, 7, 7, 7, 7, 7, 7, 7, 7, 7, 7, 7, 7, 7, 8, 8, 8, 8, 8, 8, 8, 8, 8, 8, 8, 8, 8, 8, 8, 8, 8, 8, 8, 8, 8, 8, 8, 8, 8, 8, 8, 8, 8, 8, 8, 8, 8, 8, 8, 8, 8, 8, 8, 8, 8, 8, 8, 8, 8, 8, 8, 8, 8, 8, 8, 8, 8, 8, 8, 8, 8, 8, 8, 8, 8, 8, 8, 8, 8, 8, 8, 8, 8, 8, 8, 8, 8, 8, 8, 8, 8, 8, 8, 8, 8, 8, 8, 8, 8, 8, 8, 8, 8, 8, 8, 8, 8, 8, 8, 8, 8, 8, 8, 8, 8, 8, 8, 8, 8, 8, 8, 8, 8, 8, 8, 8, 8, 8, 8, 8, 8, 8, 8, 8, 8, 8, 8, 8, 8, 8, 8, 8]⟩))) (.r 21)), oA 23 (.cvt .i64 (.r 22)), oA 24 (.bin .add (.r 19) (.r 23)), oA 2 (kM 24)]) .ret)))))⟩
theorem c172 : cfunc Tryz.prog 172 = some ir172 := by kernel_rfl
noncomputable def ir171 : IFn := ⟨19, [⟨2, none⟩], (.seq (.reg [oA 2 (.mov (kI 0))]) (.seq (.seq (.reg [oA 3 (kM 0), oA 4 (.bin .geq (.r 3) (.k (.v (.int .u32 65536))))]) (.cond (.r 4) (.seq (.reg [oA 5 (kM 0), oA 6 (.bin .shr (.r 5) (.k (.v (.int .u64 16)))), oA 0 (kM 6)]) (.reg [oA 2 (.mov (kI 16))])) .skip)) (.seq (.seq (.reg [oA 7 (kM 0), oA 8 (.bin .geq (.r 7) (.k (.v (.int .u32 256))))]) (.cond (.r 8) (.seq (.reg [oA 9 (kM 0), oA 10 (.bin .shr (.r 9) (.k (.v (.int .u64 8)))), oA 0 (kM 10)]) (.reg [oA 11 (kM 2), oA 12 (.bin .add (.r 11) (kI 8)), oA 2 (kM 12)])) .skip)) (.seq (.reg [oA 13 (kM 2), oA 14 (kM 0), oA 15 (.cvt .u8 (.r 14)), oA 16 (.idxs (.k (.v (.string ⟨#[0, 1, 2, 2, 3, 3, 3, 3, 4, 4, 4, 4, 4, 4, 4, 4, 5, 5, 5, 5, 5, 5, 5, 5, 5, 5, 5, 5, 5, 5, 5, 5, 6, 6, 6, 6, 6, 6, 6, 6, 6, 6, 6, 6, 6, 6, 6, 6, 6, 6, 6, 6, 6, 6, 6, 6, 6, 6, 6, 6, 6, 6, 6, 6, 7, 7, 7, 7, 7, 7, 7, 7, 7, 7, 7, 7, 7, 7, 7, 7, 7, 7, 7, 7, 7, 7, 7, 7, 7, 7, 7, 7, 7, 7, 7, 7, 7, 7, 7, 7, 7, 7, 7, 7, 7, 7, 7, 7, 7, 7, 7, 7, 7, 7, 7, 7, 7, 7, 7, 7, 7, 7, 7, 7, 7, 7, 7, 7, 8, 8, 8, 8, 8, 8, 8, 8, 8, 8, 8, 8, 8, 8, 8, 8, 8, 8, 8, 8, 8, 8, 8, 8, 8, 8, 8, 8, 8, 8, 8, 8, 8, 8, 8, 8, 8, 8, 8, 8, 8, 8, 8, 8, 8, 8, 8, 8, 8, 8, 8, 8, 8, 8, 8, 8, 8, 8, 8, 8, 8, 8, 8, 8, 8, 8, 8, 8, 8, 8, 8, 8, 8, 8, 8, 8, 8, 8, 8, 8, 8, 8, 8, 8, 8, 8, 8, 8, 8, 8, 8, 8, 8, 8, 8, 8, 8, 8, 8, 8, 8, 8, 8, 8, 8, 8, 8, 8, 8, 8, 8, 8, 8, 8, 8, 8, 8, 8, 8, 8, 8, 8, 8, 8, 8, 8, 8, 8]⟩))) (.r 15)), oA 17 (.cvt .i64 (.r 16)), oA 18 (.bin .add (.r 13) (.r 17)), oA 2 (kM 18)]) .ret))))⟩
theorem c171 : cfunc Tryz.prog 171 = some ir171 := by kernel_rfl
noncomputable def T3 (f : FuncId) : Option IFn :=
  if f = 100 then some ir100
  else if f = 144 then some ir144
  else if f = 162 then some ir162
  else if f = 145 then some ir145
  else if f = 172 then some ir172
  else if f = 171 then some ir171
  else none
theorem T3_ok : Tok' Tryz.prog T3 := by
  intro f k h
  unfold T3 at h
  by_cases q : f = 100
  · rw [if_pos q] at h; subst q; cases h; exact ⟨c100, by kernel_rfl⟩
  rw [if_neg q] at h; clear q
  by_cases q : f = 144
  · rw [if_pos q] at h; subst q; cases h; exact ⟨c144, by kernel_rfl⟩
  rw [if_neg q] at h; clear q
  by_cases q : f = 162
  · rw [if_pos q] at h; subst q; cases h; exact ⟨c162, by kernel_rfl⟩
  rw [if_neg q] at h; clear q
  by_cases q : f = 145
  · rw [if_pos q] at h; subst q; cases h; exact ⟨c145, by kernel_rfl⟩
  rw [if_neg q] at h; clear q
  by_cases q : f = 172
  · rw [if_pos q] at h; subst q; cases h; exact ⟨c172, by kernel_rfl⟩
  rw [if_neg q] at h; clear q
  by_cases q : f = 171
  · rw [if_pos q] at h; subst q; cases h; exact ⟨c171, by kernel_rfl⟩
  rw [if_neg q] at h; clear q
  cases h
abbrev G0 : Nat → Option (List AV) := fun _ => none
def endN (r : Option (AOut × AH)) : Bool :=
  match r with
  | some (.ret (.tup []), _) => true
  | _ => false
theorem ev_sortNil : endN (xcall Tryz.prog G0 T3 (fun _ => false) (fun _ => none) 5 9 100 [.sl .nil 0 []] AH.empty) = true := by kernel_rfl
theorem sort_nil (w : World) : Calls Tryz.prog 100 #[.slice none 0 0] w fun e w' => e = .returned (.tuple #[]) ∧ w.grownBy w' none := by
  have h := ev_sortNil
  unfold endN at h
  split at h
  · rename_i k hq
    have c := xcall_sound hmix T3_ok (fun g h => by cases h) (fun f s h => by cases h) (fun f s h => by cases h) 5 9 hq
    let μ : Mu := { obj := fun _ => none, com := fun _ _ => False, tok := fun _ => none }
    have r0 : R 0 G0 μ AH.empty w :=
      ⟨Nat.zero_le _, fun _ _ e => (by cases e), fun _ _ _ e => (by cases e), fun b off e => e.elim, fun _ _ e => (by cases e), fun _ _ _ _ e => (by cases e), fun _ _ _ e => (by cases e), fun _ _ => rfl, fun _ _ => rfl, fun g cs e => (by cases e)⟩
    refine (c 0 μ w [.slice none 0 0] r0 ⟨_, _, rfl, ⟨rfl, rfl, rfl⟩, rfl⟩).mono ?_
    rintro e w' ⟨out, h', ⟨rfl, rfl⟩, μ', st, u, rfl, hu⟩
    simp only [V, Vs] at hu
    obtain ⟨us, rfl, hus⟩ := hu
    have : us = #[] := Array.toList_inj.1 hus
    subst this
    exact ⟨rfl, ⟨st.env.1, st.env.2.1, st.env.2.2, st.size, fun b hb _ => st.keep b hb (fun _ => by simp [μ]) (fun _ _ e => by cases e)⟩⟩
  · cases h
theorem info3' : (Tryz.prog.info? 3).map (fun i => (i.zero, i.size, i.bytes)) = some (some (.int .i64 0), 1, 8) := by kernel_rfl
theorem plainElem_bool_inv {H : Type} {P : Program} {e : TypeId} (he : P.underlying e = some .bool) {v : Value} {z : DataW H × List MemPlace} (h : plainElem P e v = some z) : ∃ c, v = .bool c ∧ z = (.lit (.bool c), []) := by
  unfold plainElem at h
  rw [he] at h
  cases v <;> simp at h
  exact ⟨_, rfl, h.symm⟩
theorem sorted_any {H : Type} (b n : Nat) (D0 : DataW H) (w : World) (hown : w.ownsMap Tryz.prog 3 (plainElem Tryz.prog 4) b n D0) (hmax : Maps.size D0 ≤ 1000000) :
    Calls Tryz.prog 64 #[.map (some b)] w fun e w' => ∃ (v : Value) (ss : List Int), e = .returned v ∧ ss.Nodup ∧ (∀ x, x ∈ ss ↔ has D0 (.int .i64 x) = true) ∧
      w'.ownsRow w.heap.size 3 1 v ss.length ((ss.mergeSort (fun x y => decide (x ≤ y))).map (.int .i64)) ∧ Below w.heap.size w w' := by
  obtain ⟨i0, hi, hz0, hz1, hz2⟩ := info_parts info3'
  have hbl := hown.lt
  go_enter Tryz.func64, Tryz.ntmps64
  go_wp2_with (first
    | (at_range; refine wpList_range_own _ rfl _ 125 rfl 3 4 keyed3 Tryz.underlying125 _ b n _ rfl hown ?_; intro w0 hrg0 hg0 hs0)
    | go_in)
  go_frame
  go_loopw [3] (fun v wr => ∃ (left : Lit → Bool) (cnt : Nat) (ss : List Int), wr.ranges Tryz.prog 3 (plainElem Tryz.prog 4) b w.heap.size n D0 left cnt ∧ ss.length + cnt ≤ Maps.size D0 ∧
      wr.ownsRow w.heap.size 3 1 v ss.length (ss.map (.int .i64)) ∧ CollI D0 left ss ∧ Below w.heap.size w wr)
    (fun _ wr => wr.rangeLeft b w.heap.size)
  case atStart =>
    exact ⟨_, _, [], hrg0, by simp, ⟨rfl, .inl ⟨rfl, rfl⟩⟩, CollI.start D0, (Below.refl _ _).grown hg0 (Nat.le_refl _) (fun j hj => by cases hj)⟩
  case round =>
    obtain ⟨left, cnt, ss, hrg, hcs, hrow, hC, hnx⟩ := hrel
    go_wp2_with (first
      | (at_next; refine wpList_next_ranges _ rfl _ rfl 3 keyed3 (plainElem Tryz.prog 4) (Value.int .i64) (Value.bool) (fun key kl hk => by obtain ⟨x, hx, _⟩ := Maps.keyOf_int_inv Tryz.underlying3 hk; exact ⟨x, hx⟩) ?inv b w.heap.size n _ _ _ rfl hrg ?_ ?_)
      | go_in)
    case inv =>
      intro v y hv; obtain ⟨c, rfl, _⟩ := plainElem_bool_inv Tryz.underlying4 hv; exact ⟨c, rfl⟩
    · intro hc0 hl0
      have hfin : ∀ x, x ∈ ss ↔ has D0 (.int .i64 x) = true := fun x => by rw [hC.2 x, hl0]; simp
      rcases hrow.2 with ⟨rfl, hz⟩ | ⟨g, cap, cur, rfl, hbase, hb, h1, h2, h3, h4⟩
      · have hz' : ss = [] := List.length_eq_zero_iff.1 hz
        subst hz'
        have hc := sort_nil wr
        go_wp2_with (go_at_call 100; refine hc.mono ?_; rintro e w' ⟨rfl, hg⟩)
        go_ret
        have hrow' := hrow.kept hg (Or.inl rfl)
        exact ⟨_, [], rfl, List.nodup_nil, hfin, (by rw [List.mergeSort_nil]; exact hrow'), hnx.grown hg hnx.size (fun j hj => by cases hj)⟩
      · have hH : Holds (Value.int .i64) wr g 0 ss.toArray := holds_of_blockI hb (by simpa using h4)
        have hgl : g < wr.heap.size := (Array.getElem?_eq_some_iff.1 hb).1
        have hc := Tryz.slices_Sort_int g 0 cap ss wr hH hgl (by omega)
        go_wp2_with (go_at_call 100; refine hc.mono ?_; rintro e w' ⟨rfl, nn, os, rfl⟩)
        go_ret
        exact ⟨_, ss, rfl, hC.1, hfin, ownsRow_sortedI (by simp) hbase hb h1 h2 h3, hnx.grown (grownBy_sortedI _) hnx.size (fun j hj => by cases hj; exact hbase)⟩
    · intro x; refine ⟨?_, ?_⟩
      all_goals
        intro kl yd yp w2 cnt2 hkey hlk hv hat hrg2 hlt hg2 hs2 hen
        obtain ⟨x', ex, rfl, _⟩ := Maps.keyOf_int_inv Tryz.underlying3 hkey
        obtain rfl : x = x' := by cases ex; rfl
        have hrow2 := hrow.kept hg2 (Or.inr (row_ne_iter hrow hrg).symm)
        clear hs2
        go_wp2_with (first
          | (at_builtin; go_loud (refine wpList_append_own _ rfl _ _ 43 rfl w.heap.size 3 i0 (.int .i64 0) 1 8 Tryz.underlying43 hi hz0 hz1 hz2 rfl (by decide) _ _ _ rfl (hrow2.alloc _) ⟨w2.heap.size, 0, none⟩ 1 1 [.int .i64 x] rfl rfl (cell_one_new _ _ _) (by simp [Value.oneCell']) (by unfold maxLen at *; omega) (by omega) (by have := hnx.size; have := hg2.size; simp; omega) ?_; intro v' w3 hown' hg3 hnil3; go_frame))
          | go_in)
        have hrg3 := (hrg2.alloc _).kept hg3 (row_ne_low hrow2 hbl) (row_ne_iter hrow2 hrg2)
        go_roundw
        case rel =>
          refine ⟨_, cnt2, ss ++ [x], hrg3, by simp; omega, by simpa using hown', hC.step hlk hat, ?_⟩
          exact ((hnx.grown hg2 hnx.size (fun j hj => by cases hj; exact Nat.le_refl _)).alloc (by have := hnx.size; have := hg2.size; omega) _).grown hg3 (by have := hnx.size; have := hg2.size; simp; omega) (fun j hj => (hrow2.lt j hj).1)
        case measure => rw [hrg3.left_eq, hrg.left_eq]; exact hlt
end Go.Proofs.YtcjlpklgnknpgaaGreatDoor.Pg
