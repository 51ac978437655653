/-
  The fixed calls of the statements about concepts, reckoned.
-/
import Derived.Test.YtcajjicdbphkpaaDoorLg
import Derived.Test.YtcajjicdbphkpaaDoorPgX
set_option linter.unusedVariables false
set_option linter.unusedSimpArgs false
set_option linter.defProp false
set_option maxRecDepth 100000
set_option maxHeartbeats 4000000
namespace Go.Proofs.YtcajjicdbphkpaaDoor.Pg
open Go
section
/-! ### What is used without its text -/
theorem JC.call {P : Program} {G : Nat → Option (List AV)} {f : FuncId} {args : List AV} {h : AH} {Y : AV} (c : JC P G f args h.j (RET Y h.j)) : CALL P G f args h fun q k => q = .ret Y ∧ k = h :=
  fun B0 μ w vs r hv => (c h rfl B0 μ w vs r hv).mono fun _ _ ⟨o, h', ⟨e1, e2⟩, μ', st, p⟩ => ⟨.ret Y, h, ⟨rfl, rfl⟩, μ', Step.ext e2 st, by subst e1; exact p⟩
theorem JC.weakS {P : Program} {G : Nat → Option (List AV)} {f : FuncId} {xs ys : List AV} {j : JH} {Q : AOut → JH → Prop} (h : JC P G f ys j Q) (s : SubBs j.next j.tnext xs ys) : JC P G f xs j Q := fun hh e B0 μ w vs r hv => by
  have e1 : hh.next = j.next := congrArg JH.next e
  have e2 : hh.tnext = j.tnext := congrArg JH.tnext e
  refine h hh e B0 μ w vs r (SubBs.Vs s ⟨fun o => ?_, fun t => ?_, fun _ _ => Iff.rfl⟩ hv)
  · split
    · rfl
    · exact r.next o (by omega)
  · split
    · rfl
    · exact r.tnext t (by omega)
def decS : List AV → Option (List ByteArray)
  | [] => some []
  | .v (.string s) :: r => (decS r).map (s :: ·)
  | _ => none
theorem decS_eq : ∀ {cs : List AV} {l : List ByteArray}, decS cs = some l → cs = strs l
  | [], l, e => by simp only [decS, Option.some.injEq] at e; subst e; rfl
  | x :: cs, l, e => by
    unfold decS at e
    split at e
    · rename_i q; cases q
    · rename_i s r q
      cases q
      cases h : decS cs with
      | none => rw [h] at e; cases e
      | some l' => rw [h] at e; simp only [Option.map_some, Option.some.injEq] at e; subst e; rw [decS_eq h]; rfl
    · cases e
def decN : List AV → Option Nms
  | [.sl _ a xs, .sl _ b ys, .sl _ c zs] => xo (decS xs) fun x => xo (decS ys) fun y => xo (decS zs) fun z => if a = x.length ∧ b = y.length ∧ c = z.length ∧ ((x ++ y ++ z).all fun s => decide (s.size < 1000)) = true ∧ x.length < 1000 ∧ y.length < 1000 ∧ z.length < 1000 then some ⟨x, y, z⟩ else none
  | _ => none
theorem decN_sub {no nt : Nat} {cs : List AV} {n : Nms} (e : decN cs = some n) : SubBs no nt cs n.enc ∧ n.ok ∧ n.short := by
  unfold decN at e
  split at e
  · obtain ⟨x, e1, e⟩ := xo_some e
    obtain ⟨y, e2, e⟩ := xo_some e
    obtain ⟨z, e3, e⟩ := xo_some e
    split at e
    · rename_i h
      simp only [Option.some.injEq] at e; subst e
      obtain ⟨h1, h2, h3, h4, h5, h6, h7⟩ := h
      rw [decS_eq e1, decS_eq e2, decS_eq e3]
      refine ⟨⟨SubB.sl h1 (SubBs.pure (strs_pur x)), SubB.sl h2 (SubBs.pure (strs_pur y)), SubB.sl h3 (SubBs.pure (strs_pur z)), trivial⟩, ⟨by simp only; omega, by simp only; omega, by simp only; omega⟩, fun l hl s hs => ?_⟩
      have := List.all_eq_true.1 h4 s
      simp only [Nms.lists, List.mem_cons, List.not_mem_nil, or_false] at hl
      have hm : s ∈ x ++ y ++ z := by
        simp only [List.mem_append]
        rcases hl with rfl | rfl | rfl
        · exact .inl (.inl hs)
        · exact .inl (.inr hs)
        · exact .inr hs
      have := this hm
      simp only [decide_eq_true_eq] at this
      omega
    · cases e
  · cases e
variable {m : Int}
theorem s_IndexByte (s : ByteArray) (c : Int) {G : Nat → Option (List AV)} (j : JH) : JC Tryd.prog G 69 [STR s, U8 c] j (RET (I64 (Lib.indexByte (bs s) c.toNat.toUInt8)) j) := by
  refine JC.of_calls (vs := [.string s, .int .u8 c]) (u := .int .i64 (Lib.indexByte (bs s) c.toNat.toUInt8)) ?_ (fun _ _ => by simp [V, plain]) ?_
  · intro μ w us hv
    simp only [Vs, V] at hv
    obtain ⟨u, us', rfl, ⟨_, rfl⟩, u2, us2, rfl, ⟨_, rfl⟩, rfl⟩ := hv
    rfl
  · intro B0 μ h w r
    exact Tryd.strings_IndexByte s c w
/-- The functions that are used by their contracts. -/
def S1 (f : FuncId) : Option (List AV → AH → Option (AOut × AH)) :=
  if f = 39 then some fun args h => match args with
    | [.agg cs] => xo (decN cs) fun n => some (.ret (BOO (namesOK n)), h)
    | _ => none
  else if f = 69 then some fun args h => match args with
    | [.v (.string s), .v (.int .u8 c)] => some (.ret (I64 (Lib.indexByte (bs s) c.toNat.toUInt8)), h)
    | _ => none
  else if f = 96 then some fun args h => match args with
    | [.v (.string s), .v (.string t)] => if s.size < 4294967281 then some (.ret (BOO (Lib.contains (bs s) (bs t))), h) else none
    | _ => none
  else none
theorem S1_ok : Sok Tryd.prog (GG m) S1 := by
  intro f s hf args h o h' e
  unfold S1 at hf
  split at hf
  · rename_i q; subst q; cases hf
    dsimp only at e
    split at e
    · obtain ⟨n, e1, e⟩ := xo_some e
      cases e
      obtain ⟨h1, h2, h3⟩ := decN_sub (no := h.j.next) (nt := h.j.tnext) e1
      exact JC.call (JC.weakS (s_ValidNames n h2 h3 _) ⟨SubB.agg h1, trivial⟩)
    · cases e
  · split at hf
    · rename_i q; subst q; cases hf
      dsimp only at e
      split at e
      · cases e; exact JC.call (s_IndexByte _ _ _)
      · cases e
    · split at hf
      · rename_i q; subst q; cases hf
        dsimp only at e
        split at e
        · split at e
          · cases e; exact JC.call (s_Contains _ _ _ (by assumption))
          · cases e
        · cases e
      · cases hf
theorem GG_pure : ∀ g cs, GG m g = some cs → AV.pures cs = true := by
  intro g cs h
  unfold GG at h
  repeat' split at h
  all_goals first | (cases h; rfl) | cases h
end
/-! ### The texts -/
def ir14 : IFn := ⟨44, [⟨4, (some (some 3))⟩, ⟨5, (some none)⟩], (.seq (.reg [oA 2 (.box 24 (.r 0)), oA 4 (.alloc 27 [.v (.int .i64 0), .v (.int .i64 0), .sl .nil 0 []]), oA 5 (.alloc 32 [.v (.int .i64 0)])]) (.seq (.seq (.reg [oL 9 2 (some 3), oT 10 9 (.call 39 [.r 9]), oA 11 (.not (.r 10))]) (.cond (.r 11) (.seq (.reg [oA 12 (.build [.v (.int .i64 0), .v (.int .i64 0), .sl .nil 0 []] []), oN (.store 3 (.r 4) (.r 12)), oN (.store 1 (.r 5) (kI 20))]) .ret) .skip)) (.seq (.seq (.reg [oA 13 (kM 1), oT 14 13 (.lens (.r 13)), oA 15 (.bin .gtr (.r 14) (kI 30000))]) (.cond (.r 15) (.seq (.reg [oA 16 (.build [.v (.int .i64 0), .v (.int .i64 0), .sl .nil 0 []] []), oN (.store 3 (.r 4) (.r 16)), oN (.store 1 (.r 5) (kI 2))]) .ret) .skip)) (.seq (.dfr [oA 17 (.mkf (.func 40) [] [.r 4, .r 5])] (.r 17)) (.seq (.reg [oA 18 (kM 1), oA 19 (.call 42 [.r 18, .k (.v (.string ⟨#[40, 41, 45]⟩))]), oA 20 (.mkf (.func 43) [] [.r 2]), oA 21 (.call 41 [.r 19, .r 20]), oA 6 (kM 21)]) (.seq (.reg [oA 22 (kM 6), oT 23 22 (.call 44 [.r 22]), oA 7 (kM 23)]) (.seq (.seq (.reg [oA 24 (kM 6), oT 25 24 (.call 45 [.r 24]), oA 26 (.bin .neq (.r 25) (.k (.v (.string ⟨#[]⟩))))]) (.cond (.r 26) (.seq (.reg [oA 27 (.build [.v (.int .i64 0), .v (.int .i64 0), .sl .nil 0 []] []), oN (.store 3 (.r 4) (.r 27)), oN (.store 1 (.r 5) (kI 11))]) .ret) .skip)) (.seq (.reg [oA 28 (kM 6), oT 29 28 (.call 46 [.r 28])]) (.seq (.reg [oA 30 (kM 7), oT 31 30 (.call 47 [.r 30]), oN (.store 3 (.r 4) (.r 31))]) (.seq (.reg [oA 8 (.alloc 3 [.v (.int .i64 0)]), oN (.store 1 (.r 8) (kI 400))]) (.seq (.seq (.reg [oA 32 (kM 6), oA 33 (.nchk (.r 32)), oA 34 (.fadr 2 (.r 33)), oL 35 34 none, oA 36 (kM 35), ⟨(some 37), (some ((36, false))), (some (.r 2)), (.load (some 3) (.r 2))⟩, ⟨(some 38), (some ((36, false))), (some (.r 4)), (.load (some 3) (.r 4))⟩, ⟨(some 39), (some ((36, false))), none, (.call 48 [.r 37, .r 38, .r 8])⟩, ⟨(some 40), (some ((36, false))), none, (.not (.r 39))⟩, oA 41 (.pick (.r 36) (kB true) (.r 40))]) (.cond (.r 41) (.seq (.reg [oA 42 (.build [.v (.int .i64 0), .v (.int .i64 0), .sl .nil 0 []] []), oN (.store 3 (.r 4) (.r 42)), oN (.store 1 (.r 5) (kI 10))]) .ret) .skip)) (.seq (.reg [oL 43 4 (some 3), oN (.store 3 (.r 4) (.r 43)), oN (.store 1 (.r 5) (kI 0))]) .ret))))))))))))⟩
theorem c14 : cfunc Tryd.prog 14 = some ir14 := by kernel_rfl
theorem k14 : okIR (max 2 ir14.n) ir14.ir = true := by decide +kernel
def ir40 : IFn := ⟨17, [], (.seq (.rcv 5 [(2, 5)]) (.seq (.reg [oA 6 (kM 2), oA 7 (.inil true (.r 6))]) (.cond (.r 7) (.seq (.seq (.reg [oA 9 (kM 2), oA 10 (.tas 65 (.agg []) true (.r 9)), oA 8 (kM 10), oA 11 (.ext (.r 8) 0), oA 12 (.ext (.r 8) 1), oA 3 (.alloc 65 []), oN (.store 0 (.r 3) (.r 11)), oA 4 (kM 12)]) (.seq (.reg [oA 13 (kM 4), oA 14 (.not (.r 13))]) (.cond (.r 14) (.reg [oA 15 (kM 2), oN (.pan (.r 15))]) .skip))) (.reg [oA 16 (.build [.v (.int .i64 0), .v (.int .i64 0), .sl .nil 0 []] []), oN (.store 3 (.r 0) (.r 16)), oN (.store 1 (.r 1) (kI 11))])) .skip)))⟩
theorem c40 : cfunc Tryd.prog 40 = some ir40 := by kernel_rfl
theorem k40 : okIR (max 2 ir40.n) ir40.ir = true := by decide +kernel
def ir43 : IFn := ⟨3, [⟨1, (some (some 3))⟩], (.seq (.reg [oA 1 (.alloc 24 [.sl .nil 0 [], .sl .nil 0 [], .sl .nil 0 []])]) (.seq (.reg [oL 2 0 (some 3), oN (.store 3 (.r 1) (.r 2))]) .ret))⟩
theorem c43 : cfunc Tryd.prog 43 = some ir43 := by kernel_rfl
theorem k43 : okIR (max 1 ir43.n) ir43.ir = true := by decide +kernel
def ir41 : IFn := ⟨9, [⟨4, none⟩], (.seq (.reg [oA 4 (.mov (.k (.v (.pointer none))))]) (.seq (.reg [oA 5 (kM 1), oA 6 (kM 0), oA 7 (.build [.v .nilFunc, .sl .nil 0 [], .v (.bool false), .sl .nil 0 []] [(0, (1, .r 5)), (1, (1, .r 6))]), oA 8 (.box 76 (.r 7)), oA 4 (kM 8)]) .ret))⟩
theorem c41 : cfunc Tryd.prog 41 = some ir41 := by kernel_rfl
theorem k41 : okIR (max 2 ir41.n) ir41.ir = true := by decide +kernel
def ir42 : IFn := ⟨65, [⟨4, none⟩], (.seq (.reg [oA 4 (.mov (.k (.sl .nil 0 [])))]) (.seq (.reg [oA 5 (.mov (.k (.sl .nil 0 [])))]) (.seq (.seq (.reg [oA 6 (.mov (kI 0))]) (.block 0 (.loop (.seq (.seq (.reg [oA 8 (kM 6), oA 9 (kM 0), oT 10 9 (.lens (.r 9)), oA 11 (.bin .lss (.r 8) (.r 10))]) (.cond (.r 11) .skip (.exit 0))) (.block 1 (.block 2 (.seq (.reg [oA 15 (kM 0), oA 16 (kM 6), oA 17 (.idxs (.r 15) (.r 16)), oA 18 (.bin .eql (.r 17) (.k (.v (.int .u8 32)))), oA 14 (kM 18)]) (.cond (.r 14) (.reg [oA 19 (kM 6), oA 20 (.bin .add (.r 19) (kI 1)), oA 6 (kM 20)]) (.seq (.reg [oA 22 (kM 0), oA 23 (kM 6), oA 24 (.idxs (.r 22) (.r 23)), oT 25 24 (.call 67 [.r 24]), oA 21 (kM 25)]) (.cond (.r 21) (.seq (.reg [oA 26 (kM 6), oA 7 (kM 26)]) (.seq (.block 3 (.loop (.seq (.seq (.reg [oA 27 (kM 7), oA 28 (kM 0), oT 29 28 (.lens (.r 28)), oA 30 (.bin .lss (.r 27) (.r 29)), oA 31 (kM 30), ⟨(some 32), (some ((31, true))), none, (kM 0)⟩, ⟨(some 33), (some ((31, true))), none, (kM 7)⟩, ⟨(some 34), (some ((31, true))), none, (.idxs (.r 32) (.r 33))⟩, ⟨(some 35), (some ((31, true))), (some (.r 34)), (.call 68 [.r 34])⟩, oA 36 (.pick (.r 31) (.r 35) (kB false))]) (.cond (.r 36) .skip (.exit 3))) (.block 4 (.reg [oA 37 (kM 7), oA 38 (.bin .add (.r 37) (kI 1)), oA 7 (kM 38)]))))) (.seq (.reg [oA 39 (kM 5), oA 40 (kM 0), oA 41 (kM 6), oA 42 (kM 7), oA 43 (.slcs (.r 40) (some (.r 41)) (some (.r 42))), oA 44 (.bsl 1 1 [.v (.string ⟨#[]⟩)] [(0, (1, .r 43))]), oA 45 (.app 1 16 (.r 39) (.r 44)), oA 5 (kM 45)]) (.reg [oA 46 (kM 7), oA 6 (kM 46)])))) (.seq (.reg [oA 48 (kM 1), oA 49 (kM 0), oA 50 (kM 6), oA 51 (.idxs (.r 49) (.r 50)), oA 52 (.call 69 [.r 48, .r 51]), oA 53 (.bin .geq (.r 52) (kI 0)), oA 47 (kM 53)]) (.cond (.r 47) (.seq (.reg [oA 54 (kM 5), oA 55 (kM 0), oA 56 (kM 6), oA 57 (kM 6), oA 58 (.bin .add (.r 57) (kI 1)), oA 59 (.slcs (.r 55) (some (.r 56)) (some (.r 58))), oA 60 (.bsl 1 1 [.v (.string ⟨#[]⟩)] [(0, (1, .r 59))]), oA 61 (.app 1 16 (.r 54) (.r 60)), oA 5 (kM 61)]) (.reg [oA 62 (kM 6), oA 63 (.bin .add (.r 62) (kI 1)), oA 6 (kM 63)])) (.reg [oA 12 (.build [] []), oA 13 (.mki 65 (.r 12)), oN (.pan (.r 13))]))))))))))))) (.seq (.reg [oA 64 (kM 5), oA 4 (kM 64)]) .ret))))⟩
theorem c42 : cfunc Tryd.prog 42 = some ir42 := by kernel_rfl
theorem k42 : okIR (max 2 ir42.n) ir42.ir = true := by decide +kernel
def ir44 : IFn := ⟨101, [⟨2, none⟩], (.seq (.reg [oA 2 (.mov (.k (.v (.pointer none))))]) (.seq (.reg [oA 5 (.build [.v (.int .i64 0), .v (.int .i64 0), .sl .nil 0 [], .sl .nil 0 []] []), oA 6 (.box 101 (.r 5)), oA 3 (.alloc 70 [.v (.pointer none)]), oN (.store 1 (.r 3) (.r 6))]) (.seq (.block 0 (.seq (.reg [oA 17 (kM 0), oA 18 (.call 70 [.r 17, .k (.v (.string ⟨#[116, 111, 112]⟩))]), oA 16 (kM 18)]) (.cond (.r 16) (.reg [oL 19 3 none, oA 20 (.nchk (.r 19)), oA 21 (.fadr 0 (.r 20)), oA 22 (.fadr 0 (.r 21)), oN (.store 1 (.r 22) (kI 1))]) (.seq (.reg [oA 24 (kM 0), oA 25 (.call 70 [.r 24, .k (.v (.string ⟨#[98, 111, 116]⟩))]), oA 23 (kM 25)]) (.cond (.r 23) (.reg [oL 26 3 none, oA 27 (.nchk (.r 26)), oA 28 (.fadr 0 (.r 27)), oA 29 (.fadr 0 (.r 28)), oN (.store 1 (.r 29) (kI 2))]) (.seq (.reg [oA 31 (kM 0), oA 32 (.call 70 [.r 31, .k (.v (.string ⟨#[110, 111, 116]⟩))]), oA 30 (kM 32)]) (.cond (.r 30) (.seq (.reg [oL 33 3 none, oA 34 (.nchk (.r 33)), oA 35 (.fadr 0 (.r 34)), oA 36 (.fadr 0 (.r 35)), oN (.store 1 (.r 36) (kI 3))]) (.draw [oL 37 3 none, oA 38 (kM 0), oT 39 38 (.call 44 [.r 38]), oA 40 (.bsl 1 1 [.v (.pointer none)] [(0, (1, .r 39))]), oA 41 (.nchk (.r 37)), oA 42 (.fadr 3 (.r 41)), oN (.store 1 (.r 42) (.r 40))] [(0, 2)])) (.seq (.reg [oA 44 (kM 0), oA 45 (.call 70 [.r 44, .k (.v (.string ⟨#[40]⟩))]), oA 43 (kM 45)]) (.cond (.r 43) (.seq (.reg [oA 46 (kM 0), oT 47 46 (.call 44 [.r 46]), oA 4 (kM 47)]) (.seq (.reg [oL 48 3 none, oA 49 (.nchk (.r 48)), oA 50 (.fadr 0 (.r 49)), oA 51 (.fadr 0 (.r 50)), oN (.store 1 (.r 51) (kI 4))]) (.seq (.seq (.reg [oA 52 (kM 0), oA 53 (.call 70 [.r 52, .k (.v (.string ⟨#[97, 110, 100]⟩))]), oA 54 (.not (.r 53))]) (.cond (.r 54) (.seq (.reg [oA 55 (kM 0), oA 56 (.call 71 [.r 55, .k (.v (.string ⟨#[111, 114]⟩))])]) (.reg [oL 57 3 none, oA 58 (.nchk (.r 57)), oA 59 (.fadr 0 (.r 58)), oA 60 (.fadr 0 (.r 59)), oN (.store 1 (.r 60) (kI 5))])) .skip)) (.seq (.draw [oL 61 3 none, oA 62 (kM 4), oA 63 (kM 0), oT 64 63 (.call 44 [.r 63]), oA 65 (.bsl 2 1 [.v (.pointer none)] [(0, (1, .r 62)), (1, (1, .r 64))]), oA 66 (.nchk (.r 61)), oA 67 (.fadr 3 (.r 66)), oN (.store 1 (.r 67) (.r 65))] [(0, 3)]) (.reg [oA 68 (kM 0), oA 69 (.call 71 [.r 68, .k (.v (.string ⟨#[41]⟩))])]))))) (.seq (.reg [oA 71 (kM 0), oT 72 71 (.call 45 [.r 71]), oA 73 (.bin .eql (.r 72) (.k (.v (.string ⟨#[115, 111, 109, 101]⟩)))), oA 74 (kM 73), ⟨(some 75), (some ((74, false))), none, (kM 0)⟩, ⟨(some 76), (some ((74, false))), (some (.r 75)), (.call 45 [.r 75])⟩, ⟨(some 77), (some ((74, false))), none, (.bin .eql (.r 76) (.k (.v (.string ⟨#[97, 108, 108]⟩))))⟩, oA 78 (.pick (.r 74) (kB true) (.r 77)), oA 70 (kM 78)]) (.cond (.r 70) (.seq (.reg [oL 79 3 none, oA 80 (.nchk (.r 79)), oA 81 (.fadr 0 (.r 80)), oA 82 (.fadr 0 (.r 81)), oN (.store 1 (.r 82) (kI 6))]) (.seq (.seq (.reg [oA 83 (kM 0), oA 84 (.call 70 [.r 83, .k (.v (.string ⟨#[97, 108, 108]⟩))])]) (.cond (.r 84) (.reg [oL 85 3 none, oA 86 (.nchk (.r 85)), oA 87 (.fadr 0 (.r 86)), oA 88 (.fadr 0 (.r 87)), oN (.store 1 (.r 88) (kI 7))]) (.reg [oA 89 (kM 0), oA 90 (.call 71 [.r 89, .k (.v (.string ⟨#[115, 111, 109, 101]⟩))])]))) (.seq (.reg [oA 91 (kM 0), oA 92 (.mkf (.func 73) [] [.r 3]), oA 93 (.call 72 [.r 91, .r 92])]) (.draw [oL 94 3 none, oA 95 (kM 0), oT 96 95 (.call 44 [.r 95]), oA 97 (.bsl 1 1 [.v (.pointer none)] [(0, (1, .r 96))]), oA 98 (.nchk (.r 94)), oA 99 (.fadr 3 (.r 98)), oN (.store 1 (.r 99) (.r 97))] [(0, 2)])))) (.seq (.reg [oL 7 3 none, oA 8 (.nchk (.r 7)), oA 9 (.fadr 0 (.r 8)), oA 10 (.fadr 0 (.r 9)), oN (.store 1 (.r 10) (kI 0))]) (.reg [oA 11 (kM 0), oA 12 (kM 0), oT 13 12 (.call 75 [.r 12]), oA 14 (.mkf (.func 77) [] [.r 3]), oA 15 (.call 74 [.r 11, .r 13, .k (.fn (.func 76) [] []), .r 14])]))))))))))))) (.seq (.reg [oL 100 3 none, oA 2 (kM 100)]) .ret))))⟩
theorem c44 : cfunc Tryd.prog 44 = some ir44 := by kernel_rfl
theorem k44 : okIR (max 1 ir44.n) ir44.ir = true := by decide +kernel
def ir73 : IFn := ⟨8, [], (.reg [oL 3 1 none, oA 4 (kM 0), oA 5 (.nchk (.r 3)), oA 6 (.fadr 0 (.r 5)), oA 7 (.fadr 1 (.r 6)), oN (.store 1 (.r 7) (.r 4))])⟩
theorem c73 : cfunc Tryd.prog 73 = some ir73 := by kernel_rfl
theorem k73 : okIR (max 2 ir73.n) ir73.ir = true := by decide +kernel
def ir76 : IFn := ⟨5, [⟨2, none⟩], (.seq (.reg [oA 1 (.box 24 (.r 0)), oA 2 (.mov (.k (.sl .nil 0 [])))]) (.seq (.reg [oA 3 (.fadr 0 (.r 1)), oL 4 3 none, oA 2 (kM 4)]) .ret))⟩
theorem c76 : cfunc Tryd.prog 76 = some ir76 := by kernel_rfl
theorem k76 : okIR (max 1 ir76.n) ir76.ir = true := by decide +kernel
def ir77 : IFn := ⟨8, [], (.reg [oL 3 1 none, oA 4 (kM 0), oA 5 (.nchk (.r 3)), oA 6 (.fadr 0 (.r 5)), oA 7 (.fadr 1 (.r 6)), oN (.store 1 (.r 7) (.r 4))])⟩
theorem c77 : cfunc Tryd.prog 77 = some ir77 := by kernel_rfl
theorem k77 : okIR (max 2 ir77.n) ir77.ir = true := by decide +kernel
def ir45 : IFn := ⟨15, [⟨2, none⟩], (.seq (.reg [oA 2 (.mov (.k (.v (.string ⟨#[]⟩))))]) (.seq (.seq (.reg [oA 3 (kM 0), oA 4 (.nchk (.r 3)), oA 5 (.fadr 1 (.r 4)), oL 6 5 none, oT 7 6 (.lenl (.r 6)), oA 8 (.bin .eql (.r 7) (kI 0))]) (.cond (.r 8) (.seq (.reg [oA 2 (.mov (.k (.v (.string ⟨#[]⟩))))]) .ret) .skip)) (.seq (.reg [oA 9 (kM 0), oA 10 (.nchk (.r 9)), oA 11 (.fadr 1 (.r 10)), oL 12 11 none, oA 13 (.iasl 1 (.r 12) (kI 0)), oL 14 13 none, oA 2 (kM 14)]) .ret)))⟩
theorem c45 : cfunc Tryd.prog 45 = some ir45 := by kernel_rfl
theorem k45 : okIR (max 1 ir45.n) ir45.ir = true := by decide +kernel
def ir70 : IFn := ⟨17, [⟨4, none⟩], (.seq (.reg [oA 4 (.mov (kB false))]) (.seq (.seq (.reg [oA 5 (kM 0), oT 6 5 (.call 45 [.r 5]), oA 7 (kM 1), oA 8 (.bin .neq (.r 6) (.r 7))]) (.cond (.r 8) (.seq (.reg [oA 4 (.mov (kB false))]) .ret) .skip)) (.seq (.reg [oA 9 (kM 0), oA 10 (kM 0), oA 11 (.nchk (.r 10)), oA 12 (.fadr 1 (.r 11)), oL 13 12 none, oA 14 (.slc 1 (.r 13) (some (kI 1)) none), oA 15 (.nchk (.r 9)), oA 16 (.fadr 1 (.r 15)), oN (.store 1 (.r 16) (.r 14))]) (.seq (.reg [oA 4 (.mov (kB true))]) .ret))))⟩
theorem c70 : cfunc Tryd.prog 70 = some ir70 := by kernel_rfl
theorem k70 : okIR (max 2 ir70.n) ir70.ir = true := by decide +kernel
def ir71 : IFn := ⟨10, [], (.seq (.reg [oA 4 (kM 0), oA 5 (kM 1), oA 6 (.call 70 [.r 4, .r 5]), oA 7 (.not (.r 6))]) (.cond (.r 7) (.reg [oA 8 (.build [] []), oA 9 (.mki 65 (.r 8)), oN (.pan (.r 9))]) .skip))⟩
theorem c71 : cfunc Tryd.prog 71 = some ir71 := by kernel_rfl
theorem k71 : okIR (max 2 ir71.n) ir71.ir = true := by decide +kernel
def ir75 : IFn := ⟨31, [⟨2, none⟩], (.seq (.reg [oA 2 (.mov (.k (.v (.string ⟨#[]⟩))))]) (.seq (.reg [oA 4 (kM 0), oT 5 4 (.call 45 [.r 4]), oA 3 (kM 5)]) (.seq (.seq (.reg [oA 6 (kM 3), oA 7 (.bin .eql (.r 6) (.k (.v (.string ⟨#[]⟩)))), oA 8 (kM 7), ⟨(some 9), (some ((8, false))), none, (kM 3)⟩, ⟨(some 10), (some ((8, false))), none, (.idxs (.r 9) (kI 0))⟩, ⟨(some 11), (some ((8, false))), (some (.r 10)), (.call 67 [.r 10])⟩, ⟨(some 12), (some ((8, false))), none, (.not (.r 11))⟩, oA 13 (.pick (.r 8) (kB true) (.r 12)), oA 14 (kM 13), ⟨(some 15), (some ((14, false))), none, (kM 3)⟩, ⟨(some 16), (some ((14, false))), none, (.bin .add (.k (.v (.string ⟨#[32]⟩))) (.r 15))⟩, ⟨(some 17), (some ((14, false))), none, (.bin .add (.r 16) (.k (.v (.string ⟨#[32]⟩))))⟩, ⟨(some 18), (some ((14, false))), none, (.call 96 [.k (.v (.string ⟨#[32, 116, 111, 112, 32, 98, 111, 116, 32, 110, 111, 116, 32, 97, 110, 100, 32, 111, 114, 32, 115, 111, 109, 101, 32, 97, 108, 108, 32, 99, 111, 110, 99, 101, 112, 116, 32, 114, 111, 108, 101, 32, 105, 110, 100, 32]⟩)), .r 17])⟩, oA 19 (.pick (.r 14) (kB true) (.r 18))]) (.cond (.r 19) (.reg [oA 20 (.build [] []), oA 21 (.mki 65 (.r 20)), oN (.pan (.r 21))]) .skip)) (.seq (.reg [oA 22 (kM 0), oA 23 (kM 0), oA 24 (.nchk (.r 23)), oA 25 (.fadr 1 (.r 24)), oL 26 25 none, oA 27 (.slc 1 (.r 26) (some (kI 1)) none), oA 28 (.nchk (.r 22)), oA 29 (.fadr 1 (.r 28)), oN (.store 1 (.r 29) (.r 27))]) (.seq (.reg [oA 30 (kM 3), oA 2 (kM 30)]) .ret)))))⟩
theorem c75 : cfunc Tryd.prog 75 = some ir75 := by kernel_rfl
theorem k75 : okIR (max 1 ir75.n) ir75.ir = true := by decide +kernel
def ir74 : IFn := ⟨18, [], (.seq (.reg [oA 4 (.box 67 (.r 0)), oA 5 (.box 9 (.r 1)), oA 6 (.box 106 (.r 2)), oA 7 (.box 104 (.r 3))]) (.draw [oL 8 4 none, oL 9 4 none, oA 10 (.nchk (.r 9)), oA 11 (.fadr 3 (.r 10)), oL 12 11 none, oA 13 (.mkf (.func 100) [] [.r 6, .r 4, .r 5, .r 7]), oA 14 (.bsl 1 1 [.v .nilFunc] [(0, (1, .r 13))]), oA 15 (.app 1 8 (.r 12) (.r 14)), oA 16 (.nchk (.r 8)), oA 17 (.fadr 3 (.r 16)), oN (.store 1 (.r 17) (.r 15))] [(0, 7)]))⟩
theorem c74 : cfunc Tryd.prog 74 = some ir74 := by kernel_rfl
theorem k74 : okIR (max 4 ir74.n) ir74.ir = true := by decide +kernel
def ir100 : IFn := ⟨22, [], (.seq (.draw [oL 5 0 none, oL 6 1 none, oA 7 (.nchk (.r 6)), oA 8 (.fadr 0 (.r 7)), oL 9 8 none, oA 10 (.callv (.r 9) []), oT 11 10 (.callv (.r 5) [.r 10]), oL 12 2 none, oA 13 (.call 101 [.r 11, .r 12]), oA 4 (kM 13)] [(0, 5), (7, 5), (7, 6)]) (.seq (.seq (.reg [oA 14 (kM 4), oA 15 (.bin .lss (.r 14) (kI 0))]) (.cond (.r 15) (.seq (.reg [oL 16 1 none, oA 17 (.nchk (.r 16)), oA 18 (.fadr 2 (.r 17)), oN (.store 1 (.r 18) (kB true))]) .ret) .skip)) (.reg [oL 19 3 none, oA 20 (kM 4), oT 21 20 (.callv (.r 19) [.r 20])])))⟩
theorem c100 : cfunc Tryd.prog 100 = some ir100 := by kernel_rfl
theorem k100 : okIR (max 4 ir100.n) ir100.ir = true := by decide +kernel
def ir72 : IFn := ⟨14, [], (.seq (.reg [oA 3 (.box 104 (.r 1))]) (.seq (.reg [oA 6 (kM 0), oT 7 6 (.call 75 [.r 6]), oA 4 (kM 7)]) (.seq (.reg [oA 5 (.alloc 3 [.v (.int .i64 0)]), oN (.store 1 (.r 5) (kI 0))]) (.seq (.seq (.reg [oA 8 (kM 0), oA 9 (.call 70 [.r 8, .k (.v (.string ⟨#[45]⟩))])]) (.cond (.r 9) (.reg [oN (.store 1 (.r 5) (kI 1))]) .skip)) (.reg [oA 10 (kM 0), oA 11 (kM 4), oA 12 (.mkf (.func 99) [] [.r 3, .r 5]), oA 13 (.call 74 [.r 10, .r 11, .k (.fn (.func 98) [] []), .r 12])])))))⟩
theorem c72 : cfunc Tryd.prog 72 = some ir72 := by kernel_rfl
theorem k72 : okIR (max 2 ir72.n) ir72.ir = true := by decide +kernel
def ir98 : IFn := ⟨5, [⟨2, none⟩], (.seq (.reg [oA 1 (.box 24 (.r 0)), oA 2 (.mov (.k (.sl .nil 0 [])))]) (.seq (.reg [oA 3 (.fadr 1 (.r 1)), oL 4 3 none, oA 2 (kM 4)]) .ret))⟩
theorem c98 : cfunc Tryd.prog 98 = some ir98 := by kernel_rfl
theorem k98 : okIR (max 1 ir98.n) ir98.ir = true := by decide +kernel
def ir99 : IFn := ⟨10, [], (.reg [oL 4 1 none, oA 5 (kM 0), oA 6 (.bin .mul (kI 2) (.r 5)), oL 7 2 none, oA 8 (.bin .add (.r 6) (.r 7)), oT 9 8 (.callv (.r 4) [.r 8])])⟩
theorem c99 : cfunc Tryd.prog 99 = some ir99 := by kernel_rfl
theorem k99 : okIR (max 3 ir99.n) ir99.ir = true := by decide +kernel
def ir46 : IFn := ⟨19, [], (.seq (.seq (.reg [oA 4 (kM 0), oA 5 (.nchk (.r 4)), oA 6 (.fadr 3 (.r 5)), oL 7 6 none, oT 8 7 (.lenl (.r 7)), oA 9 (.mov (kI 0))]) (.block 0 (.loop (.seq (.reg [oA 10 (.bin .lss (.r 9) (.r 8))]) (.seq (.cond (.r 10) .skip (.exit 0)) (.seq (.block 1 (.seq (.reg [oA 11 (.iasl 1 (.r 7) (.r 9)), oL 12 11 none, oA 3 (kM 12)]) (.reg [oA 13 (kM 3), oA 14 (.callv (.r 13) [])]))) (.reg [oA 15 (.bin .add (.r 9) (kI 1)), oA 9 (kM 15)]))))))) (.reg [oA 16 (kM 0), oA 17 (.nchk (.r 16)), oA 18 (.fadr 3 (.r 17)), oN (.store 1 (.r 18) (.k (.sl .nil 0 [])))]))⟩
theorem c46 : cfunc Tryd.prog 46 = some ir46 := by kernel_rfl
theorem k46 : okIR (max 1 ir46.n) ir46.ir = true := by decide +kernel
def ir47 : IFn := ⟨28, [⟨2, (some (some 3))⟩], (.seq (.reg [oA 2 (.alloc 27 [.v (.int .i64 0), .v (.int .i64 0), .sl .nil 0 []])]) (.seq (.reg [oA 6 (kM 0), oA 7 (.nchk (.r 6)), oA 8 (.fadr 0 (.r 7)), oL 9 8 (some 3), oA 3 (.alloc 27 [.v (.int .i64 0), .v (.int .i64 0), .sl .nil 0 []]), oN (.store 3 (.r 3) (.r 9))]) (.seq (.seq (.reg [oA 10 (kM 0), oA 11 (.nchk (.r 10)), oA 12 (.fadr 3 (.r 11)), oL 13 12 none, oT 14 13 (.lenl (.r 13)), oA 15 (.mov (kI 0))]) (.block 0 (.loop (.seq (.reg [oA 16 (.bin .lss (.r 15) (.r 14))]) (.seq (.cond (.r 16) .skip (.exit 0)) (.seq (.block 1 (.seq (.reg [oA 17 (.iasl 1 (.r 13) (.r 15)), oL 18 17 none, oA 5 (kM 18)]) (.draw [oA 19 (.fadr 2 (.r 3)), oL 20 19 none, oA 21 (kM 5), oT 22 21 (.call 47 [.r 21]), oA 23 (.bsl 1 3 [.v (.int .i64 0), .v (.int .i64 0), .sl .nil 0 []] [(0, (3, .r 22))]), oA 24 (.app 3 40 (.r 20) (.r 23)), oA 25 (.fadr 2 (.r 3)), oN (.store 1 (.r 25) (.r 24))] [(1, 3)]))) (.reg [oA 26 (.bin .add (.r 15) (kI 1)), oA 15 (kM 26)]))))))) (.seq (.reg [oL 27 3 (some 3), oN (.store 3 (.r 2) (.r 27))]) .ret))))⟩
theorem c47 : cfunc Tryd.prog 47 = some ir47 := by kernel_rfl
theorem k47 : okIR (max 1 ir47.n) ir47.ir = true := by decide +kernel
def ir101 : IFn := ⟨19, [⟨4, none⟩], (.seq (.reg [oA 4 (.mov (kI 0))]) (.seq (.seq (.reg [oA 6 (kM 0), oT 7 6 (.lenl (.r 6)), oA 8 (.mov (kI 0))]) (.block 0 (.loop (.seq (.reg [oA 9 (.bin .lss (.r 8) (.r 7))]) (.seq (.cond (.r 9) .skip (.exit 0)) (.seq (.block 1 (.seq (.reg [oA 10 (kM 8), oA 5 (kM 10)]) (.seq (.reg [oA 11 (kM 1), oA 12 (kM 0), oA 13 (kM 5), oA 14 (.iasl 1 (.r 12) (.r 13)), oL 15 14 none, oA 16 (.bin .eql (.r 11) (.r 15))]) (.cond (.r 16) (.seq (.reg [oA 17 (kM 5), oA 4 (kM 17)]) .ret) .skip)))) (.reg [oA 18 (.bin .add (.r 8) (kI 1)), oA 8 (kM 18)]))))))) (.seq (.reg [oA 4 (.mov (kI (-1)))]) .ret)))⟩
theorem c101 : cfunc Tryd.prog 101 = some ir101 := by kernel_rfl
theorem k101 : okIR (max 2 ir101.n) ir101.ir = true := by decide +kernel
def ir18 : IFn := ⟨21, [⟨4, (some (some 3))⟩, ⟨5, none⟩], (.seq (.reg [oA 2 (.box 24 (.r 0)), oA 3 (.box 27 (.r 1)), oA 4 (.alloc 27 [.v (.int .i64 0), .v (.int .i64 0), .sl .nil 0 []]), oA 5 (.mov (kI 0))]) (.seq (.seq (.reg [oL 7 2 (some 3), oL 8 3 (some 3), oA 9 (.bsl 1 3 [.v (.int .i64 0), .v (.int .i64 0), .sl .nil 0 []] [(0, (3, .r 8))]), oA 10 (.call 35 [.r 7, .r 9]), oA 6 (kM 10)]) (.seq (.reg [oA 11 (kM 6), oA 12 (.bin .neq (.r 11) (kI 0))]) (.cond (.r 12) (.seq (.reg [oA 13 (.build [.v (.int .i64 0), .v (.int .i64 0), .sl .nil 0 []] []), oA 14 (kM 6), oN (.store 3 (.r 4) (.r 13)), oA 5 (kM 14)]) .ret) .skip))) (.seq (.draw [oL 15 2 (some 3), oL 16 3 (some 3), oA 17 (.call 54 [.r 16, .k (.v (.bool false))]), oA 18 (.call 53 [.r 15, .r 17]), oA 19 (.ext (.r 18) 0), oA 20 (.ext (.r 18) 1), oN (.store 3 (.r 4) (.r 19)), oA 5 (kM 20)] [(0, 2)]) .ret)))⟩
theorem c18 : cfunc Tryd.prog 18 = some ir18 := by kernel_rfl
theorem k18 : okIR (max 2 ir18.n) ir18.ir = true := by decide +kernel
def ir53 : IFn := ⟨13, [⟨4, (some (some 3))⟩, ⟨5, none⟩], (.seq (.reg [oA 2 (.box 24 (.r 0)), oA 3 (.box 27 (.r 1)), oA 4 (.alloc 27 [.v (.int .i64 0), .v (.int .i64 0), .sl .nil 0 []]), oA 5 (.mov (kI 0))]) (.seq (.reg [oA 6 (.alloc 3 [.v (.int .i64 0)]), oN (.store 1 (.r 6) (kI 400))]) (.seq (.seq (.reg [oL 7 2 (some 3), oL 8 3 (some 3), oA 9 (.call 48 [.r 7, .r 8, .r 6]), oA 10 (.not (.r 9))]) (.cond (.r 10) (.seq (.reg [oA 11 (.build [.v (.int .i64 0), .v (.int .i64 0), .sl .nil 0 []] []), oN (.store 3 (.r 4) (.r 11)), oA 5 (.mov (kI 2))]) .ret) .skip)) (.seq (.reg [oL 12 3 (some 3), oN (.store 3 (.r 4) (.r 12)), oA 5 (.mov (kI 0))]) .ret))))⟩
theorem c53 : cfunc Tryd.prog 53 = some ir53 := by kernel_rfl
theorem k53 : okIR (max 2 ir53.n) ir53.ir = true := by decide +kernel
def ir54 : IFn := ⟨58, [⟨4, (some (some 3))⟩], (.seq (.reg [oA 2 (.box 27 (.r 0)), oA 4 (.alloc 27 [.v (.int .i64 0), .v (.int .i64 0), .sl .nil 0 []])]) (.seq (.seq (.reg [oA 8 (.fadr 0 (.r 2)), oL 9 8 none]) (.block 0 (.seq (.reg [oA 11 (.bin .eql (.r 9) (kI 0)), oA 10 (kM 11)]) (.cond (.r 10) (.seq (.seq (.reg [oA 12 (kM 1)]) (.cond (.r 12) (.seq (.reg [oA 13 (.fadr 1 (.r 2)), oL 14 13 none, oA 15 (.build [.v (.int .i64 0), .v (.int .i64 0), .sl .nil 0 []] [(0, (1, .k (.v (.int .i64 0)))), (1, (1, .r 14))]), oA 16 (.bsl 1 3 [.v (.int .i64 0), .v (.int .i64 0), .sl .nil 0 []] [(0, (3, .r 15))]), oA 17 (.build [.v (.int .i64 0), .v (.int .i64 0), .sl .nil 0 []] [(0, (1, .k (.v (.int .i64 3)))), (2, (1, .r 16))]), oN (.store 3 (.r 4) (.r 17))]) .ret) .skip)) (.seq (.reg [oA 18 (.fadr 1 (.r 2)), oL 19 18 none, oA 20 (.build [.v (.int .i64 0), .v (.int .i64 0), .sl .nil 0 []] [(0, (1, .k (.v (.int .i64 0)))), (1, (1, .r 19))]), oN (.store 3 (.r 4) (.r 20))]) .ret)) (.seq (.reg [oA 22 (.bin .eql (.r 9) (kI 3)), oA 21 (kM 22)]) (.cond (.r 21) (.seq (.reg [oA 23 (.fadr 2 (.r 2)), oL 24 23 none, oA 25 (.iasl 3 (.r 24) (kI 0)), oL 26 25 (some 3), oA 27 (kM 1), oA 28 (.not (.r 27)), oA 29 (.call 54 [.r 26, .r 28]), oN (.store 3 (.r 4) (.r 29))]) .ret) .skip)))))) (.seq (.reg [oA 30 (.fadr 0 (.r 2)), oL 31 30 none, oA 32 (.fadr 1 (.r 2)), oL 33 32 none, oA 34 (.build [.v (.int .i64 0), .v (.int .i64 0), .sl .nil 0 []] [(0, (1, .r 31)), (1, (1, .r 33))]), oA 5 (.alloc 27 [.v (.int .i64 0), .v (.int .i64 0), .sl .nil 0 []]), oN (.store 3 (.r 5) (.r 34))]) (.seq (.seq (.reg [oA 35 (kM 1)]) (.cond (.r 35) (.reg [oA 36 (.fadr 0 (.r 2)), oL 37 36 none, oA 38 (.iaar 8 1 (.g 0) (.r 37)), oL 39 38 none, oA 40 (.fadr 0 (.r 5)), oN (.store 1 (.r 40) (.r 39))]) .skip)) (.seq (.seq (.reg [oA 41 (.fadr 2 (.r 2)), oL 42 41 none, oT 43 42 (.lenl (.r 42)), oA 44 (.mov (kI 0))]) (.block 1 (.loop (.seq (.reg [oA 45 (.bin .lss (.r 44) (.r 43))]) (.seq (.cond (.r 45) .skip (.exit 1)) (.seq (.block 2 (.seq (.reg [oA 46 (.iasl 3 (.r 42) (.r 44)), oL 47 46 (some 3), oA 7 (.alloc 27 [.v (.int .i64 0), .v (.int .i64 0), .sl .nil 0 []]), oN (.store 3 (.r 7) (.r 47))]) (.draw [oA 48 (.fadr 2 (.r 5)), oL 49 48 none, oL 50 7 (some 3), oA 51 (kM 1), oA 52 (.call 54 [.r 50, .r 51]), oA 53 (.bsl 1 3 [.v (.int .i64 0), .v (.int .i64 0), .sl .nil 0 []] [(0, (3, .r 52))]), oA 54 (.app 3 40 (.r 49) (.r 53)), oA 55 (.fadr 2 (.r 5)), oN (.store 1 (.r 55) (.r 54))] [(1, 4)]))) (.reg [oA 56 (.bin .add (.r 44) (kI 1)), oA 44 (kM 56)]))))))) (.seq (.reg [oL 57 5 (some 3), oN (.store 3 (.r 4) (.r 57))]) .ret))))))⟩
theorem c54 : cfunc Tryd.prog 54 = some ir54 := by kernel_rfl
theorem k54 : okIR (max 2 ir54.n) ir54.ir = true := by decide +kernel
def ir11 : IFn := ⟨17, [⟨4, none⟩, ⟨5, none⟩], (.seq (.reg [oA 2 (.box 24 (.r 0)), oA 3 (.box 27 (.r 1)), oA 4 (.mov (.k (.v (.string ⟨#[]⟩)))), oA 5 (.mov (kI 0))]) (.seq (.seq (.reg [oL 7 2 (some 3), oL 8 3 (some 3), oA 9 (.bsl 1 3 [.v (.int .i64 0), .v (.int .i64 0), .sl .nil 0 []] [(0, (3, .r 8))]), oA 10 (.call 35 [.r 7, .r 9]), oA 6 (kM 10)]) (.seq (.reg [oA 11 (kM 6), oA 12 (.bin .neq (.r 11) (kI 0))]) (.cond (.r 12) (.seq (.reg [oA 13 (kM 6), oA 4 (.mov (.k (.v (.string ⟨#[]⟩)))), oA 5 (kM 13)]) .ret) .skip))) (.seq (.reg [oL 14 2 (some 3), oL 15 3 (some 3), oA 16 (.call 36 [.r 14, .r 15]), oA 4 (kM 16), oA 5 (.mov (kI 0))]) .ret)))⟩
theorem c11 : cfunc Tryd.prog 11 = some ir11 := by kernel_rfl
theorem k11 : okIR (max 2 ir11.n) ir11.ir = true := by decide +kernel
def ir36 : IFn := ⟨92, [⟨4, none⟩], (.seq (.reg [oA 2 (.box 24 (.r 0)), oA 3 (.box 27 (.r 1)), oA 4 (.mov (.k (.v (.string ⟨#[]⟩))))]) (.seq (.seq (.reg [oA 5 (.fadr 0 (.r 3)), oL 6 5 none]) (.block 0 (.seq (.reg [oA 8 (.bin .eql (.r 6) (kI 0)), oA 7 (kM 8)]) (.cond (.r 7) (.seq (.reg [oA 9 (.fadr 0 (.r 2)), oL 10 9 none, oA 11 (.fadr 1 (.r 3)), oL 12 11 none, oA 13 (.iasl 1 (.r 10) (.r 12)), oL 14 13 none, oA 4 (kM 14)]) .ret) (.seq (.reg [oA 16 (.bin .eql (.r 6) (kI 1)), oA 15 (kM 16)]) (.cond (.r 15) (.seq (.reg [oA 4 (.mov (.k (.v (.string ⟨#[116, 111, 112]⟩))))]) .ret) (.seq (.reg [oA 18 (.bin .eql (.r 6) (kI 2)), oA 17 (kM 18)]) (.cond (.r 17) (.seq (.reg [oA 4 (.mov (.k (.v (.string ⟨#[98, 111, 116]⟩))))]) .ret) (.seq (.reg [oA 20 (.bin .eql (.r 6) (kI 3)), oA 19 (kM 20)]) (.cond (.r 19) (.seq (.draw [oL 21 2 (some 3), oA 22 (.fadr 2 (.r 3)), oL 23 22 none, oA 24 (.iasl 3 (.r 23) (kI 0)), oL 25 24 (some 3), oA 26 (.call 36 [.r 21, .r 25]), oA 27 (.bin .add (.k (.v (.string ⟨#[110, 111, 116, 32]⟩))) (.r 26)), oA 4 (kM 27)] []) .ret) (.seq (.reg [oA 29 (.bin .eql (.r 6) (kI 4)), oA 28 (kM 29)]) (.cond (.r 28) (.seq (.draw [oL 30 2 (some 3), oA 31 (.fadr 2 (.r 3)), oL 32 31 none, oA 33 (.iasl 3 (.r 32) (kI 0)), oL 34 33 (some 3), oA 35 (.call 36 [.r 30, .r 34]), oA 36 (.bin .add (.k (.v (.string ⟨#[40]⟩))) (.r 35)), oA 37 (.bin .add (.r 36) (.k (.v (.string ⟨#[32, 97, 110, 100, 32]⟩)))), oL 38 2 (some 3), oA 39 (.fadr 2 (.r 3)), oL 40 39 none, oA 41 (.iasl 3 (.r 40) (kI 1)), oL 42 41 (some 3), oA 43 (.call 36 [.r 38, .r 42]), oA 44 (.bin .add (.r 37) (.r 43)), oA 45 (.bin .add (.r 44) (.k (.v (.string ⟨#[41]⟩)))), oA 4 (kM 45)] [(8, 5), (10, 5), (12, 5)]) .ret) (.seq (.reg [oA 47 (.bin .eql (.r 6) (kI 5)), oA 46 (kM 47)]) (.cond (.r 46) (.seq (.draw [oL 48 2 (some 3), oA 49 (.fadr 2 (.r 3)), oL 50 49 none, oA 51 (.iasl 3 (.r 50) (kI 0)), oL 52 51 (some 3), oA 53 (.call 36 [.r 48, .r 52]), oA 54 (.bin .add (.k (.v (.string ⟨#[40]⟩))) (.r 53)), oA 55 (.bin .add (.r 54) (.k (.v (.string ⟨#[32, 111, 114, 32]⟩)))), oL 56 2 (some 3), oA 57 (.fadr 2 (.r 3)), oL 58 57 none, oA 59 (.iasl 3 (.r 58) (kI 1)), oL 60 59 (some 3), oA 61 (.call 36 [.r 56, .r 60]), oA 62 (.bin .add (.r 55) (.r 61)), oA 63 (.bin .add (.r 62) (.k (.v (.string ⟨#[41]⟩)))), oA 4 (kM 63)] [(8, 5), (10, 5), (12, 5)]) .ret) (.seq (.reg [oA 65 (.bin .eql (.r 6) (kI 6)), oA 64 (kM 65)]) (.cond (.r 64) (.seq (.draw [oL 66 2 (some 3), oA 67 (.fadr 1 (.r 3)), oL 68 67 none, oA 69 (.call 63 [.r 66, .r 68]), oA 70 (.bin .add (.k (.v (.string ⟨#[115, 111, 109, 101, 32]⟩))) (.r 69)), oA 71 (.bin .add (.r 70) (.k (.v (.string ⟨#[32]⟩)))), oL 72 2 (some 3), oA 73 (.fadr 2 (.r 3)), oL 74 73 none, oA 75 (.iasl 3 (.r 74) (kI 0)), oL 76 75 (some 3), oA 77 (.call 36 [.r 72, .r 76]), oA 78 (.bin .add (.r 71) (.r 77)), oA 4 (kM 78)] [(6, 3), (8, 3), (10, 3)]) .ret) .skip)))))))))))))))) (.seq (.draw [oL 79 2 (some 3), oA 80 (.fadr 1 (.r 3)), oL 81 80 none, oA 82 (.call 63 [.r 79, .r 81]), oA 83 (.bin .add (.k (.v (.string ⟨#[97, 108, 108, 32]⟩))) (.r 82)), oA 84 (.bin .add (.r 83) (.k (.v (.string ⟨#[32]⟩)))), oL 85 2 (some 3), oA 86 (.fadr 2 (.r 3)), oL 87 86 none, oA 88 (.iasl 3 (.r 87) (kI 0)), oL 89 88 (some 3), oA 90 (.call 36 [.r 85, .r 89]), oA 91 (.bin .add (.r 84) (.r 90)), oA 4 (kM 91)] [(6, 3), (8, 3), (10, 3)]) .ret)))⟩
theorem c36 : cfunc Tryd.prog 36 = some ir36 := by kernel_rfl
theorem k36 : okIR (max 2 ir36.n) ir36.ir = true := by decide +kernel
def ir63 : IFn := ⟨21, [⟨4, none⟩], (.seq (.reg [oA 2 (.box 24 (.r 0)), oA 4 (.mov (.k (.v (.string ⟨#[]⟩))))]) (.seq (.seq (.reg [oA 5 (kM 1), oA 6 (.bin .rem (.r 5) (kI 2)), oA 7 (.bin .eql (.r 6) (kI 1))]) (.cond (.r 7) (.seq (.reg [oA 8 (.fadr 1 (.r 2)), oL 9 8 none, oA 10 (kM 1), oA 11 (.bin .quo (.r 10) (kI 2)), oA 12 (.iasl 1 (.r 9) (.r 11)), oL 13 12 none, oA 14 (.bin .add (.r 13) (.k (.v (.string ⟨#[45]⟩)))), oA 4 (kM 14)]) .ret) .skip)) (.seq (.reg [oA 15 (.fadr 1 (.r 2)), oL 16 15 none, oA 17 (kM 1), oA 18 (.bin .quo (.r 17) (kI 2)), oA 19 (.iasl 1 (.r 16) (.r 18)), oL 20 19 none, oA 4 (kM 20)]) .ret)))⟩
theorem c63 : cfunc Tryd.prog 63 = some ir63 := by kernel_rfl
theorem k63 : okIR (max 2 ir63.n) ir63.ir = true := by decide +kernel
def ir34 : IFn := ⟨4, [⟨0, (some (some 3))⟩], (.seq (.reg [oA 0 (.alloc 24 [.sl .nil 0 [], .sl .nil 0 [], .sl .nil 0 []])]) (.seq (.reg [oA 1 (.bsl 2 1 [.v (.string ⟨#[]⟩)] [(0, (1, .k (.v (.string ⟨#[65]⟩)))), (1, (1, .k (.v (.string ⟨#[66]⟩))))]), oA 2 (.bsl 1 1 [.v (.string ⟨#[]⟩)] [(0, (1, .k (.v (.string ⟨#[114]⟩))))]), oA 3 (.build [.sl .nil 0 [], .sl .nil 0 [], .sl .nil 0 []] [(0, (1, .r 1)), (1, (1, .r 2))]), oN (.store 3 (.r 0) (.r 3))]) .ret))⟩
theorem c34 : cfunc Tryd.prog 34 = some ir34 := by kernel_rfl
theorem k34 : okIR (max 0 ir34.n) ir34.ir = true := by decide +kernel
def ir10 : IFn := ⟨60, [⟨0, none⟩], (.seq (.reg [oA 0 (.mov (kB false))]) (.seq (.reg [oA 12 (.call 34 []), oA 13 (.call 14 [.r 12, .k (.v (.string ⟨#[110, 111, 116, 32, 115, 111, 109, 101, 32, 114, 45, 32, 40, 65, 32, 97, 110, 100, 32, 110, 111, 116, 32, 66, 41]⟩))]), oA 11 (kM 13), oA 14 (.ext (.r 11) 0), oA 15 (.ext (.r 11) 1), oA 1 (.alloc 27 [.v (.int .i64 0), .v (.int .i64 0), .sl .nil 0 []]), oN (.store 3 (.r 1) (.r 14)), oA 2 (kM 15)]) (.seq (.draw [oL 18 1 (some 3), oA 3 (.alloc 27 [.v (.int .i64 0), .v (.int .i64 0), .sl .nil 0 []]), oA 17 (.call 34 []), oA 19 (.call 18 [.r 17, .r 18]), oA 16 (kM 19), oA 20 (.ext (.r 16) 0), oA 21 (.ext (.r 16) 1), oN (.store 3 (.r 3) (.r 20)), oA 4 (kM 21)] [(0, 2), (1, 2), (1, 3)]) (.seq (.draw [oA 23 (.call 34 []), oL 24 3 (some 3), oA 25 (.call 11 [.r 23, .r 24]), oA 22 (kM 25), oA 26 (.ext (.r 22) 0), oA 27 (.ext (.r 22) 1), oA 5 (kM 26), oA 6 (kM 27)] [(1, 0)]) (.seq (.reg [oA 29 (.call 34 []), oA 30 (.call 14 [.r 29, .k (.v (.string ⟨#[65, 32, 97, 110, 100, 32, 66]⟩))]), oA 28 (kM 30), oA 31 (.ext (.r 28) 0), oA 32 (.ext (.r 28) 1), oA 7 (.alloc 27 [.v (.int .i64 0), .v (.int .i64 0), .sl .nil 0 []]), oN (.store 3 (.r 7) (.r 31)), oA 8 (kM 32)]) (.seq (.reg [oA 34 (.call 34 []), oA 35 (.call 14 [.r 34, .k (.v (.string ⟨#[115, 111, 109, 101, 32, 65, 32, 66]⟩))]), oA 33 (kM 35), oA 36 (.ext (.r 33) 0), oA 37 (.ext (.r 33) 1), oA 9 (.alloc 27 [.v (.int .i64 0), .v (.int .i64 0), .sl .nil 0 []]), oN (.store 3 (.r 9) (.r 36)), oA 10 (kM 37)]) (.seq (.reg [oA 38 (kM 2), oA 39 (.bin .eql (.r 38) (kI 0)), oA 40 (kM 39), ⟨(some 41), (some ((40, true))), none, (kM 4)⟩, ⟨(some 42), (some ((40, true))), none, (.bin .eql (.r 41) (kI 0))⟩, oA 43 (.pick (.r 40) (.r 42) (kB false)), oA 44 (kM 43), ⟨(some 45), (some ((44, true))), none, (kM 6)⟩, ⟨(some 46), (some ((44, true))), none, (.bin .eql (.r 45) (kI 0))⟩, oA 47 (.pick (.r 44) (.r 46) (kB false)), oA 48 (kM 47), ⟨(some 49), (some ((48, true))), none, (kM 5)⟩, ⟨(some 50), (some ((48, true))), none, (.bin .eql (.r 49) (.k (.v (.string ⟨#[97, 108, 108, 32, 114, 45, 32, 40, 110, 111, 116, 32, 65, 32, 111, 114, 32, 66, 41]⟩))))⟩, oA 51 (.pick (.r 48) (.r 50) (kB false)), oA 52 (kM 51), ⟨(some 53), (some ((52, true))), none, (kM 8)⟩, ⟨(some 54), (some ((52, true))), none, (.bin .eql (.r 53) (kI 11))⟩, oA 55 (.pick (.r 52) (.r 54) (kB false)), oA 56 (kM 55), ⟨(some 57), (some ((56, true))), none, (kM 10)⟩, ⟨(some 58), (some ((56, true))), none, (.bin .eql (.r 57) (kI 10))⟩, oA 59 (.pick (.r 56) (.r 58) (kB false)), oA 0 (kM 59)]) .ret)))))))⟩
theorem c10 : cfunc Tryd.prog 10 = some ir10 := by kernel_rfl
theorem k10 : okIR (max 0 ir10.n) ir10.ir = true := by decide +kernel
def T1 (f : FuncId) : Option IFn :=
  if f = 14 then some ir14
  else if f = 40 then some ir40
  else if f = 43 then some ir43
  else if f = 41 then some ir41
  else if f = 42 then some ir42
  else if f = 44 then some ir44
  else if f = 73 then some ir73
  else if f = 76 then some ir76
  else if f = 77 then some ir77
  else if f = 45 then some ir45
  else if f = 70 then some ir70
  else if f = 71 then some ir71
  else if f = 75 then some ir75
  else if f = 74 then some ir74
  else if f = 100 then some ir100
  else if f = 72 then some ir72
  else if f = 98 then some ir98
  else if f = 99 then some ir99
  else if f = 46 then some ir46
  else if f = 47 then some ir47
  else if f = 101 then some ir101
  else if f = 18 then some ir18
  else if f = 53 then some ir53
  else if f = 54 then some ir54
  else if f = 11 then some ir11
  else if f = 36 then some ir36
  else if f = 63 then some ir63
  else if f = 34 then some ir34
  else if f = 10 then some ir10
  else if f = 67 then some ir67
  else if f = 68 then some ir68
  else if f = 48 then some ir48
  else if f = 78 then some ir78
  else if f = 35 then some ir35
  else none
theorem T1_ok : Tok' Tryd.prog T1 := by
  intro f k h
  unfold T1 at h
  by_cases q : f = 14
  · rw [if_pos q] at h; subst q; cases h; exact ⟨c14, by kernel_rfl⟩
  rw [if_neg q] at h; clear q
  by_cases q : f = 40
  · rw [if_pos q] at h; subst q; cases h; exact ⟨c40, by kernel_rfl⟩
  rw [if_neg q] at h; clear q
  by_cases q : f = 43
  · rw [if_pos q] at h; subst q; cases h; exact ⟨c43, by kernel_rfl⟩
  rw [if_neg q] at h; clear q
  by_cases q : f = 41
  · rw [if_pos q] at h; subst q; cases h; exact ⟨c41, by kernel_rfl⟩
  rw [if_neg q] at h; clear q
  by_cases q : f = 42
  · rw [if_pos q] at h; subst q; cases h; exact ⟨c42, by kernel_rfl⟩
  rw [if_neg q] at h; clear q
  by_cases q : f = 44
  · rw [if_pos q] at h; subst q; cases h; exact ⟨c44, by kernel_rfl⟩
  rw [if_neg q] at h; clear q
  by_cases q : f = 73
  · rw [if_pos q] at h; subst q; cases h; exact ⟨c73, by kernel_rfl⟩
  rw [if_neg q] at h; clear q
  by_cases q : f = 76
  · rw [if_pos q] at h; subst q; cases h; exact ⟨c76, by kernel_rfl⟩
  rw [if_neg q] at h; clear q
  by_cases q : f = 77
  · rw [if_pos q] at h; subst q; cases h; exact ⟨c77, by kernel_rfl⟩
  rw [if_neg q] at h; clear q
  by_cases q : f = 45
  · rw [if_pos q] at h; subst q; cases h; exact ⟨c45, by kernel_rfl⟩
  rw [if_neg q] at h; clear q
  by_cases q : f = 70
  · rw [if_pos q] at h; subst q; cases h; exact ⟨c70, by kernel_rfl⟩
  rw [if_neg q] at h; clear q
  by_cases q : f = 71
  · rw [if_pos q] at h; subst q; cases h; exact ⟨c71, by kernel_rfl⟩
  rw [if_neg q] at h; clear q
  by_cases q : f = 75
  · rw [if_pos q] at h; subst q; cases h; exact ⟨c75, by kernel_rfl⟩
  rw [if_neg q] at h; clear q
  by_cases q : f = 74
  · rw [if_pos q] at h; subst q; cases h; exact ⟨c74, by kernel_rfl⟩
  rw [if_neg q] at h; clear q
  by_cases q : f = 100
  · rw [if_pos q] at h; subst q; cases h; exact ⟨c100, by kernel_rfl⟩
  rw [if_neg q] at h; clear q
  by_cases q : f = 72
  · rw [if_pos q] at h; subst q; cases h; exact ⟨c72, by kernel_rfl⟩
  rw [if_neg q] at h; clear q
  by_cases q : f = 98
  · rw [if_pos q] at h; subst q; cases h; exact ⟨c98, by kernel_rfl⟩
  rw [if_neg q] at h; clear q
  by_cases q : f = 99
  · rw [if_pos q] at h; subst q; cases h; exact ⟨c99, by kernel_rfl⟩
  rw [if_neg q] at h; clear q
  by_cases q : f = 46
  · rw [if_pos q] at h; subst q; cases h; exact ⟨c46, by kernel_rfl⟩
  rw [if_neg q] at h; clear q
  by_cases q : f = 47
  · rw [if_pos q] at h; subst q; cases h; exact ⟨c47, by kernel_rfl⟩
  rw [if_neg q] at h; clear q
  by_cases q : f = 101
  · rw [if_pos q] at h; subst q; cases h; exact ⟨c101, by kernel_rfl⟩
  rw [if_neg q] at h; clear q
  by_cases q : f = 18
  · rw [if_pos q] at h; subst q; cases h; exact ⟨c18, by kernel_rfl⟩
  rw [if_neg q] at h; clear q
  by_cases q : f = 53
  · rw [if_pos q] at h; subst q; cases h; exact ⟨c53, by kernel_rfl⟩
  rw [if_neg q] at h; clear q
  by_cases q : f = 54
  · rw [if_pos q] at h; subst q; cases h; exact ⟨c54, by kernel_rfl⟩
  rw [if_neg q] at h; clear q
  by_cases q : f = 11
  · rw [if_pos q] at h; subst q; cases h; exact ⟨c11, by kernel_rfl⟩
  rw [if_neg q] at h; clear q
  by_cases q : f = 36
  · rw [if_pos q] at h; subst q; cases h; exact ⟨c36, by kernel_rfl⟩
  rw [if_neg q] at h; clear q
  by_cases q : f = 63
  · rw [if_pos q] at h; subst q; cases h; exact ⟨c63, by kernel_rfl⟩
  rw [if_neg q] at h; clear q
  by_cases q : f = 34
  · rw [if_pos q] at h; subst q; cases h; exact ⟨c34, by kernel_rfl⟩
  rw [if_neg q] at h; clear q
  by_cases q : f = 10
  · rw [if_pos q] at h; subst q; cases h; exact ⟨c10, by kernel_rfl⟩
  rw [if_neg q] at h; clear q
  by_cases q : f = 67
  · rw [if_pos q] at h; subst q; cases h; exact ⟨c67, by kernel_rfl⟩
  rw [if_neg q] at h; clear q
  by_cases q : f = 68
  · rw [if_pos q] at h; subst q; cases h; exact ⟨c68, by kernel_rfl⟩
  rw [if_neg q] at h; clear q
  by_cases q : f = 48
  · rw [if_pos q] at h; subst q; cases h; exact ⟨c48, by kernel_rfl⟩
  rw [if_neg q] at h; clear q
  by_cases q : f = 78
  · rw [if_pos q] at h; subst q; cases h; exact ⟨c78, by kernel_rfl⟩
  rw [if_neg q] at h; clear q
  by_cases q : f = 35
  · rw [if_pos q] at h; subst q; cases h; exact ⟨c35, by kernel_rfl⟩
  rw [if_neg q] at h; clear q
  cases h
def R1 (f : FuncId) : Bool := decide (f = 40)
theorem R1_ok : Rok Tryd.prog R1 := by
  intro g h
  simp only [R1, decide_eq_true_eq] at h
  subst h; kernel_rfl
theorem ev_awake1 (m : Int) : outV (xcall (GG m) T1 R1 S1 400 60 [] 10 [] AH.empty) (.bool true) = true := by kernel_rfl
theorem s_awake1 (m : Int) (j : JH) : JC Tryd.prog (GG m) 10 [] j (RET (BOO true) j) := JC.closed hmix GG_pure T1_ok R1_ok S1_ok (ev_awake1 m) j
end Go.Proofs.YtcajjicdbphkpaaDoor.Pg
