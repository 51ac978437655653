/-
  The fixed calls of the statements about concepts, reckoned.
-/
import Derived.Test.YtcajjicdbphkpaaGreatDoorLg
import Derived.Test.YtcajjicdbphkpaaGreatDoorPgX
set_option linter.unusedVariables false
set_option linter.unusedSimpArgs false
set_option linter.defProp false
set_option maxRecDepth 100000
set_option maxHeartbeats 4000000
namespace Go.Proofs.YtcajjicdbphkpaaGreatDoor.Pg
open Go
section
/-! ### What is used without its text -/
theorem JC.call {P : Program} {G : Nat → Option (List AV)} {f : FuncId} {args : List AV} {h : AH} {Y : AV} (c : JC P G f args h.j (RET Y h.j)) : CALL P G f args h fun q k => q = .ret Y ∧ k = h :=
  fun B0 μ w vs r hv => (c h rfl B0 μ w vs r hv).mono fun _ _ ⟨o, h', ⟨e1, e2⟩, μ', st, p⟩ => ⟨.ret Y, h, ⟨rfl, rfl⟩, μ', Step.ext e2 st, by subst e1; exact p⟩
theorem JC.weakS {P : Program} {G : Nat → Option (List AV)} {f : FuncId} {xs ys : List AV} {j : JH} {Q : AOut → JH → Prop} (h : JC P G f ys j Q) (s : SubBs j.next j.tnext xs ys) : JC P G f xs j Q := fun hh e B0 μ w vs r hv => by
  have e1 : hh.next = j.next := congrArg JH.next e
  have e2 : hh.tnext = j.tnext := congrArg JH.tnext e
  refine h hh e B0 μ w vs r (SubBs.Vs s ⟨fun o => ?_, fun t => ?_, fun _ _ => Iff.rfl⟩ hv)
  · split
    · rfl
    · exact r.next o (by omega)
  · split
    · rfl
    · exact r.tnext t (by omega)
def decS : List AV → Option (List ByteArray)
  | [] => some []
  | .v (.string s) :: r => (decS r).map (s :: ·)
  | _ => none
theorem decS_eq : ∀ {cs : List AV} {l : List ByteArray}, decS cs = some l → cs = strs l
  | [], l, e => by simp only [decS, Option.some.injEq] at e; subst e; rfl
  | x :: cs, l, e => by
    unfold decS at e
    split at e
    · rename_i q; cases q
    · rename_i s r q
      cases q
      cases h : decS cs with
      | none => rw [h] at e; cases e
      | some l' => rw [h] at e; simp only [Option.map_some, Option.some.injEq] at e; subst e; rw [decS_eq h]; rfl
    · cases e
def decN : List AV → Option Nms
  | [.sl _ a xs, .sl _ b ys, .sl _ c zs] => xo (decS xs) fun x => xo (decS ys) fun y => xo (decS zs) fun z => if a = x.length ∧ b = y.length ∧ c = z.length ∧ ((x ++ y ++ z).all fun s => decide (s.size < 1000)) = true ∧ x.length < 1000 ∧ y.length < 1000 ∧ z.length < 1000 then some ⟨x, y, z⟩ else none
  | _ => none
theorem decN_sub {no nt : Nat} {cs : List AV} {n : Nms} (e : decN cs = some n) : SubBs no nt cs n.enc ∧ n.ok ∧ n.short := by
  unfold decN at e
  split at e
  · obtain ⟨x, e1, e⟩ := xo_some e
    obtain ⟨y, e2, e⟩ := xo_some e
    obtain ⟨z, e3, e⟩ := xo_some e
    split at e
    · rename_i h
      simp only [Option.some.injEq] at e; subst e
      obtain ⟨h1, h2, h3, h4, h5, h6, h7⟩ := h
      rw [decS_eq e1, decS_eq e2, decS_eq e3]
      refine ⟨⟨SubB.sl h1 (SubBs.pure (strs_pur x)), SubB.sl h2 (SubBs.pure (strs_pur y)), SubB.sl h3 (SubBs.pure (strs_pur z)), trivial⟩, ⟨by simp only; omega, by simp only; omega, by simp only; omega⟩, fun l hl s hs => ?_⟩
      have := List.all_eq_true.1 h4 s
      simp only [Nms.lists, List.mem_cons, List.not_mem_nil, or_false] at hl
      have hm : s ∈ x ++ y ++ z := by
        simp only [List.mem_append]
        rcases hl with rfl | rfl | rfl
        · exact .inl (.inl hs)
        · exact .inl (.inr hs)
        · exact .inr hs
      have := this hm
      simp only [decide_eq_true_eq] at this
      omega
    · cases e
  · cases e
variable {m : GM}
theorem s_IndexByte (s : ByteArray) (c : Int) {G : Nat → Option (List AV)} (j : JH) : JC Tryz.prog G 54 [STR s, U8 c] j (RET (I64 (Lib.indexByte (bs s) c.toNat.toUInt8)) j) := by
  refine JC.of_calls (vs := [.string s, .int .u8 c]) (u := .int .i64 (Lib.indexByte (bs s) c.toNat.toUInt8)) ?_ (fun _ _ => by simp [V, plain]) ?_
  · intro μ w us hv
    simp only [Vs, V] at hv
    obtain ⟨u, us', rfl, ⟨_, rfl⟩, u2, us2, rfl, ⟨_, rfl⟩, rfl⟩ := hv
    rfl
  · intro B0 μ h w r
    exact Tryz.strings_IndexByte s c w
/-- The functions that are used by their contracts. -/
def S1 (f : FuncId) : Option (List AV → AH → Option (AOut × AH)) :=
  if f = 30 then some fun args h => match args with
    | [.agg cs] => xo (decN cs) fun n => some (.ret (BOO (namesOK n)), h)
    | _ => none
  else if f = 54 then some fun args h => match args with
    | [.v (.string s), .v (.int .u8 c)] => some (.ret (I64 (Lib.indexByte (bs s) c.toNat.toUInt8)), h)
    | _ => none
  else if f = 71 then some fun args h => match args with
    | [.v (.string s), .v (.string t)] => if s.size < 4294967281 then some (.ret (BOO (Lib.contains (bs s) (bs t))), h) else none
    | _ => none
  else none
theorem S1_ok : Sok Tryz.prog (GG m) S1 := by
  intro f s hf args h o h' e
  unfold S1 at hf
  split at hf
  · rename_i q; subst q; cases hf
    dsimp only at e
    split at e
    · obtain ⟨n, e1, e⟩ := xo_some e
      cases e
      obtain ⟨h1, h2, h3⟩ := decN_sub (no := h.j.next) (nt := h.j.tnext) e1
      exact JC.call (JC.weakS (s_ValidNames n h2 h3 _) ⟨SubB.agg h1, trivial⟩)
    · cases e
  · split at hf
    · rename_i q; subst q; cases hf
      dsimp only at e
      split at e
      · cases e; exact JC.call (s_IndexByte _ _ _)
      · cases e
    · split at hf
      · rename_i q; subst q; cases hf
        dsimp only at e
        split at e
        · split at e
          · cases e; exact JC.call (s_Contains _ _ _ (by assumption))
          · cases e
        · cases e
      · cases hf
theorem S1_k : Sk S1 := by
  intro f s hf args h o h' e
  unfold S1 at hf
  split at hf
  · cases hf
    dsimp only at e
    split at e
    · obtain ⟨n, e1, e⟩ := xo_some e
      cases e; exact KL.refl _
    · cases e
  · split at hf
    · cases hf
      dsimp only at e
      split at e
      · cases e; exact KL.refl _
      · cases e
    · split at hf
      · cases hf
        dsimp only at e
        split at e
        · split at e
          · cases e; exact KL.refl _
          · cases e
        · cases e
      · cases hf
/-- The tables of this seat: the numbers of arguments and the duals. -/
abbrev GM1 (k : Int) : GM := ⟨k, fun g => if g = 0 then some [I64 0, I64 2, I64 1, I64 0, I64 5, I64 4, I64 7, I64 6] else none⟩
theorem GG_pure {k : Int} : ∀ g cs, GG (GM1 k) g = some cs → AV.pures cs = true := by
  intro g cs h
  simp only [GG] at h
  repeat' split at h
  all_goals first | (cases h; rfl) | cases h
end
/-! ### The texts -/
def ir15 : IFn := ⟨44, [⟨4, (some (some 3))⟩, ⟨5, (some none)⟩], (.seq (.reg [oA 2 (.box 24 (.r 0)), oA 4 (.alloc 27 [.v (.int .i64 0), .v (.int .i64 0), .sl .nil 0 []]), oA 5 (.alloc 31 [.v (.int .i64 0)])]) (.seq (.seq (.reg [oL 9 2 (some 3), oT 10 9 (.call 30 [.r 9]), oA 11 (.not (.r 10))]) (.cond (.r 11) (.seq (.reg [oA 12 (.build [.v (.int .i64 0), .v (.int .i64 0), .sl .nil 0 []] []), oN (.store 3 (.r 4) (.r 12)), oN (.store 1 (.r 5) (kI 20))]) .ret) .skip)) (.seq (.seq (.reg [oA 13 (kM 1), oT 14 13 (.lens (.r 13)), oA 15 (.bin .gtr (.r 14) (kI 30000))]) (.cond (.r 15) (.seq (.reg [oA 16 (.build [.v (.int .i64 0), .v (.int .i64 0), .sl .nil 0 []] []), oN (.store 3 (.r 4) (.r 16)), oN (.store 1 (.r 5) (kI 2))]) .ret) .skip)) (.seq (.dfr [oA 17 (.mkf (.func 31) [] [.r 4, .r 5])] (.r 17)) (.seq (.reg [oA 18 (kM 1), oA 19 (.call 33 [.r 18, .k (.v (.string ⟨#[40, 41, 45]⟩))]), oA 20 (.mkf (.func 34) [] [.r 2]), oA 21 (.call 32 [.r 19, .r 20]), oA 6 (kM 21)]) (.seq (.reg [oA 22 (kM 6), oT 23 22 (.call 35 [.r 22]), oA 7 (kM 23)]) (.seq (.seq (.reg [oA 24 (kM 6), oT 25 24 (.call 36 [.r 24]), oA 26 (.bin .neq (.r 25) (.k (.v (.string ⟨#[]⟩))))]) (.cond (.r 26) (.seq (.reg [oA 27 (.build [.v (.int .i64 0), .v (.int .i64 0), .sl .nil 0 []] []), oN (.store 3 (.r 4) (.r 27)), oN (.store 1 (.r 5) (kI 11))]) .ret) .skip)) (.seq (.reg [oA 28 (kM 6), oT 29 28 (.call 37 [.r 28])]) (.seq (.reg [oA 30 (kM 7), oT 31 30 (.call 38 [.r 30]), oN (.store 3 (.r 4) (.r 31))]) (.seq (.reg [oA 8 (.alloc 3 [.v (.int .i64 0)]), oN (.store 1 (.r 8) (kI 400))]) (.seq (.seq (.reg [oA 32 (kM 6), oA 33 (.nchk (.r 32)), oA 34 (.fadr 2 (.r 33)), oL 35 34 none, oA 36 (kM 35), ⟨(some 37), (some ((36, false))), (some (.r 2)), (.load (some 3) (.r 2))⟩, ⟨(some 38), (some ((36, false))), (some (.r 4)), (.load (some 3) (.r 4))⟩, ⟨(some 39), (some ((36, false))), none, (.call 39 [.r 37, .r 38, .r 8])⟩, ⟨(some 40), (some ((36, false))), none, (.not (.r 39))⟩, oA 41 (.pick (.r 36) (kB true) (.r 40))]) (.cond (.r 41) (.seq (.reg [oA 42 (.build [.v (.int .i64 0), .v (.int .i64 0), .sl .nil 0 []] []), oN (.store 3 (.r 4) (.r 42)), oN (.store 1 (.r 5) (kI 10))]) .ret) .skip)) (.seq (.reg [oL 43 4 (some 3), oN (.store 3 (.r 4) (.r 43)), oN (.store 1 (.r 5) (kI 0))]) .ret))))))))))))⟩
theorem c15 : cfunc Tryz.prog 15 = some ir15 := by kernel_rfl
theorem k15 : okIR (max 2 ir15.n) ir15.ir = true := by decide +kernel
def ir31 : IFn := ⟨17, [], (.seq (.rcv 5 [(2, 5)]) (.seq (.reg [oA 6 (kM 2), oA 7 (.inil true (.r 6))]) (.cond (.r 7) (.seq (.seq (.reg [oA 9 (kM 2), oA 10 (.tas 66 (.agg []) true (.r 9)), oA 8 (kM 10), oA 11 (.ext (.r 8) 0), oA 12 (.ext (.r 8) 1), oA 3 (.alloc 66 []), oN (.store 0 (.r 3) (.r 11)), oA 4 (kM 12)]) (.seq (.reg [oA 13 (kM 4), oA 14 (.not (.r 13))]) (.cond (.r 14) (.reg [oA 15 (kM 2), oN (.pan (.r 15))]) .skip))) (.reg [oA 16 (.build [.v (.int .i64 0), .v (.int .i64 0), .sl .nil 0 []] []), oN (.store 3 (.r 0) (.r 16)), oN (.store 1 (.r 1) (kI 11))])) .skip)))⟩
theorem c31 : cfunc Tryz.prog 31 = some ir31 := by kernel_rfl
theorem k31 : okIR (max 2 ir31.n) ir31.ir = true := by decide +kernel
def ir34 : IFn := ⟨3, [⟨1, (some (some 3))⟩], (.seq (.reg [oA 1 (.alloc 24 [.sl .nil 0 [], .sl .nil 0 [], .sl .nil 0 []])]) (.seq (.reg [oL 2 0 (some 3), oN (.store 3 (.r 1) (.r 2))]) .ret))⟩
theorem c34 : cfunc Tryz.prog 34 = some ir34 := by kernel_rfl
theorem k34 : okIR (max 1 ir34.n) ir34.ir = true := by decide +kernel
def ir32 : IFn := ⟨9, [⟨4, none⟩], (.seq (.reg [oA 4 (.mov (.k (.v (.pointer none))))]) (.seq (.reg [oA 5 (kM 1), oA 6 (kM 0), oA 7 (.build [.v .nilFunc, .sl .nil 0 [], .v (.bool false), .sl .nil 0 []] [(0, (1, .r 5)), (1, (1, .r 6))]), oA 8 (.box 77 (.r 7)), oA 4 (kM 8)]) .ret))⟩
theorem c32 : cfunc Tryz.prog 32 = some ir32 := by kernel_rfl
theorem k32 : okIR (max 2 ir32.n) ir32.ir = true := by decide +kernel
def ir33 : IFn := ⟨65, [⟨4, none⟩], (.seq (.reg [oA 4 (.mov (.k (.sl .nil 0 [])))]) (.seq (.reg [oA 5 (.mov (.k (.sl .nil 0 [])))]) (.seq (.seq (.reg [oA 6 (.mov (kI 0))]) (.block 0 (.loop (.seq (.seq (.reg [oA 8 (kM 6), oA 9 (kM 0), oT 10 9 (.lens (.r 9)), oA 11 (.bin .lss (.r 8) (.r 10))]) (.cond (.r 11) .skip (.exit 0))) (.block 1 (.block 2 (.seq (.reg [oA 15 (kM 0), oA 16 (kM 6), oA 17 (.idxs (.r 15) (.r 16)), oA 18 (.bin .eql (.r 17) (.k (.v (.int .u8 32)))), oA 14 (kM 18)]) (.cond (.r 14) (.reg [oA 19 (kM 6), oA 20 (.bin .add (.r 19) (kI 1)), oA 6 (kM 20)]) (.seq (.reg [oA 22 (kM 0), oA 23 (kM 6), oA 24 (.idxs (.r 22) (.r 23)), oT 25 24 (.call 52 [.r 24]), oA 21 (kM 25)]) (.cond (.r 21) (.seq (.reg [oA 26 (kM 6), oA 7 (kM 26)]) (.seq (.block 3 (.loop (.seq (.seq (.reg [oA 27 (kM 7), oA 28 (kM 0), oT 29 28 (.lens (.r 28)), oA 30 (.bin .lss (.r 27) (.r 29)), oA 31 (kM 30), ⟨(some 32), (some ((31, true))), none, (kM 0)⟩, ⟨(some 33), (some ((31, true))), none, (kM 7)⟩, ⟨(some 34), (some ((31, true))), none, (.idxs (.r 32) (.r 33))⟩, ⟨(some 35), (some ((31, true))), (some (.r 34)), (.call 53 [.r 34])⟩, oA 36 (.pick (.r 31) (.r 35) (kB false))]) (.cond (.r 36) .skip (.exit 3))) (.block 4 (.reg [oA 37 (kM 7), oA 38 (.bin .add (.r 37) (kI 1)), oA 7 (kM 38)]))))) (.seq (.reg [oA 39 (kM 5), oA 40 (kM 0), oA 41 (kM 6), oA 42 (kM 7), oA 43 (.slcs (.r 40) (some (.r 41)) (some (.r 42))), oA 44 (.bsl 1 1 [.v (.string ⟨#[]⟩)] [(0, (1, .r 43))]), oA 45 (.app 1 16 (.r 39) (.r 44)), oA 5 (kM 45)]) (.reg [oA 46 (kM 7), oA 6 (kM 46)])))) (.seq (.reg [oA 48 (kM 1), oA 49 (kM 0), oA 50 (kM 6), oA 51 (.idxs (.r 49) (.r 50)), oA 52 (.call 54 [.r 48, .r 51]), oA 53 (.bin .geq (.r 52) (kI 0)), oA 47 (kM 53)]) (.cond (.r 47) (.seq (.reg [oA 54 (kM 5), oA 55 (kM 0), oA 56 (kM 6), oA 57 (kM 6), oA 58 (.bin .add (.r 57) (kI 1)), oA 59 (.slcs (.r 55) (some (.r 56)) (some (.r 58))), oA 60 (.bsl 1 1 [.v (.string ⟨#[]⟩)] [(0, (1, .r 59))]), oA 61 (.app 1 16 (.r 54) (.r 60)), oA 5 (kM 61)]) (.reg [oA 62 (kM 6), oA 63 (.bin .add (.r 62) (kI 1)), oA 6 (kM 63)])) (.reg [oA 12 (.build [] []), oA 13 (.mki 66 (.r 12)), oN (.pan (.r 13))]))))))))))))) (.seq (.reg [oA 64 (kM 5), oA 4 (kM 64)]) .ret))))⟩
theorem c33 : cfunc Tryz.prog 33 = some ir33 := by kernel_rfl
theorem k33 : okIR (max 2 ir33.n) ir33.ir = true := by decide +kernel
def ir35 : IFn := ⟨101, [⟨2, none⟩], (.seq (.reg [oA 2 (.mov (.k (.v (.pointer none))))]) (.seq (.reg [oA 5 (.build [.v (.int .i64 0), .v (.int .i64 0), .sl .nil 0 [], .sl .nil 0 []] []), oA 6 (.box 92 (.r 5)), oA 3 (.alloc 71 [.v (.pointer none)]), oN (.store 1 (.r 3) (.r 6))]) (.seq (.block 0 (.seq (.reg [oA 17 (kM 0), oA 18 (.call 55 [.r 17, .k (.v (.string ⟨#[116, 111, 112]⟩))]), oA 16 (kM 18)]) (.cond (.r 16) (.reg [oL 19 3 none, oA 20 (.nchk (.r 19)), oA 21 (.fadr 0 (.r 20)), oA 22 (.fadr 0 (.r 21)), oN (.store 1 (.r 22) (kI 1))]) (.seq (.reg [oA 24 (kM 0), oA 25 (.call 55 [.r 24, .k (.v (.string ⟨#[98, 111, 116]⟩))]), oA 23 (kM 25)]) (.cond (.r 23) (.reg [oL 26 3 none, oA 27 (.nchk (.r 26)), oA 28 (.fadr 0 (.r 27)), oA 29 (.fadr 0 (.r 28)), oN (.store 1 (.r 29) (kI 2))]) (.seq (.reg [oA 31 (kM 0), oA 32 (.call 55 [.r 31, .k (.v (.string ⟨#[110, 111, 116]⟩))]), oA 30 (kM 32)]) (.cond (.r 30) (.seq (.reg [oL 33 3 none, oA 34 (.nchk (.r 33)), oA 35 (.fadr 0 (.r 34)), oA 36 (.fadr 0 (.r 35)), oN (.store 1 (.r 36) (kI 3))]) (.draw [oL 37 3 none, oA 38 (kM 0), oT 39 38 (.call 35 [.r 38]), oA 40 (.bsl 1 1 [.v (.pointer none)] [(0, (1, .r 39))]), oA 41 (.nchk (.r 37)), oA 42 (.fadr 3 (.r 41)), oN (.store 1 (.r 42) (.r 40))] [(0, 2)])) (.seq (.reg [oA 44 (kM 0), oA 45 (.call 55 [.r 44, .k (.v (.string ⟨#[40]⟩))]), oA 43 (kM 45)]) (.cond (.r 43) (.seq (.reg [oA 46 (kM 0), oT 47 46 (.call 35 [.r 46]), oA 4 (kM 47)]) (.seq (.reg [oL 48 3 none, oA 49 (.nchk (.r 48)), oA 50 (.fadr 0 (.r 49)), oA 51 (.fadr 0 (.r 50)), oN (.store 1 (.r 51) (kI 4))]) (.seq (.seq (.reg [oA 52 (kM 0), oA 53 (.call 55 [.r 52, .k (.v (.string ⟨#[97, 110, 100]⟩))]), oA 54 (.not (.r 53))]) (.cond (.r 54) (.seq (.reg [oA 55 (kM 0), oA 56 (.call 56 [.r 55, .k (.v (.string ⟨#[111, 114]⟩))])]) (.reg [oL 57 3 none, oA 58 (.nchk (.r 57)), oA 59 (.fadr 0 (.r 58)), oA 60 (.fadr 0 (.r 59)), oN (.store 1 (.r 60) (kI 5))])) .skip)) (.seq (.draw [oL 61 3 none, oA 62 (kM 4), oA 63 (kM 0), oT 64 63 (.call 35 [.r 63]), oA 65 (.bsl 2 1 [.v (.pointer none)] [(0, (1, .r 62)), (1, (1, .r 64))]), oA 66 (.nchk (.r 61)), oA 67 (.fadr 3 (.r 66)), oN (.store 1 (.r 67) (.r 65))] [(0, 3)]) (.reg [oA 68 (kM 0), oA 69 (.call 56 [.r 68, .k (.v (.string ⟨#[41]⟩))])]))))) (.seq (.reg [oA 71 (kM 0), oT 72 71 (.call 36 [.r 71]), oA 73 (.bin .eql (.r 72) (.k (.v (.string ⟨#[115, 111, 109, 101]⟩)))), oA 74 (kM 73), ⟨(some 75), (some ((74, false))), none, (kM 0)⟩, ⟨(some 76), (some ((74, false))), (some (.r 75)), (.call 36 [.r 75])⟩, ⟨(some 77), (some ((74, false))), none, (.bin .eql (.r 76) (.k (.v (.string ⟨#[97, 108, 108]⟩))))⟩, oA 78 (.pick (.r 74) (kB true) (.r 77)), oA 70 (kM 78)]) (.cond (.r 70) (.seq (.reg [oL 79 3 none, oA 80 (.nchk (.r 79)), oA 81 (.fadr 0 (.r 80)), oA 82 (.fadr 0 (.r 81)), oN (.store 1 (.r 82) (kI 6))]) (.seq (.seq (.reg [oA 83 (kM 0), oA 84 (.call 55 [.r 83, .k (.v (.string ⟨#[97, 108, 108]⟩))])]) (.cond (.r 84) (.reg [oL 85 3 none, oA 86 (.nchk (.r 85)), oA 87 (.fadr 0 (.r 86)), oA 88 (.fadr 0 (.r 87)), oN (.store 1 (.r 88) (kI 7))]) (.reg [oA 89 (kM 0), oA 90 (.call 56 [.r 89, .k (.v (.string ⟨#[115, 111, 109, 101]⟩))])]))) (.seq (.reg [oA 91 (kM 0), oA 92 (.mkf (.func 58) [] [.r 3]), oA 93 (.call 57 [.r 91, .r 92])]) (.draw [oL 94 3 none, oA 95 (kM 0), oT 96 95 (.call 35 [.r 95]), oA 97 (.bsl 1 1 [.v (.pointer none)] [(0, (1, .r 96))]), oA 98 (.nchk (.r 94)), oA 99 (.fadr 3 (.r 98)), oN (.store 1 (.r 99) (.r 97))] [(0, 2)])))) (.seq (.reg [oL 7 3 none, oA 8 (.nchk (.r 7)), oA 9 (.fadr 0 (.r 8)), oA 10 (.fadr 0 (.r 9)), oN (.store 1 (.r 10) (kI 0))]) (.reg [oA 11 (kM 0), oA 12 (kM 0), oT 13 12 (.call 60 [.r 12]), oA 14 (.mkf (.func 62) [] [.r 3]), oA 15 (.call 59 [.r 11, .r 13, .k (.fn (.func 61) [] []), .r 14])]))))))))))))) (.seq (.reg [oL 100 3 none, oA 2 (kM 100)]) .ret))))⟩
theorem c35 : cfunc Tryz.prog 35 = some ir35 := by kernel_rfl
theorem k35 : okIR (max 1 ir35.n) ir35.ir = true := by decide +kernel
def ir58 : IFn := ⟨8, [], (.reg [oL 3 1 none, oA 4 (kM 0), oA 5 (.nchk (.r 3)), oA 6 (.fadr 0 (.r 5)), oA 7 (.fadr 1 (.r 6)), oN (.store 1 (.r 7) (.r 4))])⟩
theorem c58 : cfunc Tryz.prog 58 = some ir58 := by kernel_rfl
theorem k58 : okIR (max 2 ir58.n) ir58.ir = true := by decide +kernel
def ir61 : IFn := ⟨5, [⟨2, none⟩], (.seq (.reg [oA 1 (.box 24 (.r 0)), oA 2 (.mov (.k (.sl .nil 0 [])))]) (.seq (.reg [oA 3 (.fadr 0 (.r 1)), oL 4 3 none, oA 2 (kM 4)]) .ret))⟩
theorem c61 : cfunc Tryz.prog 61 = some ir61 := by kernel_rfl
theorem k61 : okIR (max 1 ir61.n) ir61.ir = true := by decide +kernel
def ir62 : IFn := ⟨8, [], (.reg [oL 3 1 none, oA 4 (kM 0), oA 5 (.nchk (.r 3)), oA 6 (.fadr 0 (.r 5)), oA 7 (.fadr 1 (.r 6)), oN (.store 1 (.r 7) (.r 4))])⟩
theorem c62 : cfunc Tryz.prog 62 = some ir62 := by kernel_rfl
theorem k62 : okIR (max 2 ir62.n) ir62.ir = true := by decide +kernel
def ir36 : IFn := ⟨15, [⟨2, none⟩], (.seq (.reg [oA 2 (.mov (.k (.v (.string ⟨#[]⟩))))]) (.seq (.seq (.reg [oA 3 (kM 0), oA 4 (.nchk (.r 3)), oA 5 (.fadr 1 (.r 4)), oL 6 5 none, oT 7 6 (.lenl (.r 6)), oA 8 (.bin .eql (.r 7) (kI 0))]) (.cond (.r 8) (.seq (.reg [oA 2 (.mov (.k (.v (.string ⟨#[]⟩))))]) .ret) .skip)) (.seq (.reg [oA 9 (kM 0), oA 10 (.nchk (.r 9)), oA 11 (.fadr 1 (.r 10)), oL 12 11 none, oA 13 (.iasl 1 (.r 12) (kI 0)), oL 14 13 none, oA 2 (kM 14)]) .ret)))⟩
theorem c36 : cfunc Tryz.prog 36 = some ir36 := by kernel_rfl
theorem k36 : okIR (max 1 ir36.n) ir36.ir = true := by decide +kernel
def ir55 : IFn := ⟨17, [⟨4, none⟩], (.seq (.reg [oA 4 (.mov (kB false))]) (.seq (.seq (.reg [oA 5 (kM 0), oT 6 5 (.call 36 [.r 5]), oA 7 (kM 1), oA 8 (.bin .neq (.r 6) (.r 7))]) (.cond (.r 8) (.seq (.reg [oA 4 (.mov (kB false))]) .ret) .skip)) (.seq (.reg [oA 9 (kM 0), oA 10 (kM 0), oA 11 (.nchk (.r 10)), oA 12 (.fadr 1 (.r 11)), oL 13 12 none, oA 14 (.slc 1 (.r 13) (some (kI 1)) none), oA 15 (.nchk (.r 9)), oA 16 (.fadr 1 (.r 15)), oN (.store 1 (.r 16) (.r 14))]) (.seq (.reg [oA 4 (.mov (kB true))]) .ret))))⟩
theorem c55 : cfunc Tryz.prog 55 = some ir55 := by kernel_rfl
theorem k55 : okIR (max 2 ir55.n) ir55.ir = true := by decide +kernel
def ir56 : IFn := ⟨10, [], (.seq (.reg [oA 4 (kM 0), oA 5 (kM 1), oA 6 (.call 55 [.r 4, .r 5]), oA 7 (.not (.r 6))]) (.cond (.r 7) (.reg [oA 8 (.build [] []), oA 9 (.mki 66 (.r 8)), oN (.pan (.r 9))]) .skip))⟩
theorem c56 : cfunc Tryz.prog 56 = some ir56 := by kernel_rfl
theorem k56 : okIR (max 2 ir56.n) ir56.ir = true := by decide +kernel
def ir60 : IFn := ⟨31, [⟨2, none⟩], (.seq (.reg [oA 2 (.mov (.k (.v (.string ⟨#[]⟩))))]) (.seq (.reg [oA 4 (kM 0), oT 5 4 (.call 36 [.r 4]), oA 3 (kM 5)]) (.seq (.seq (.reg [oA 6 (kM 3), oA 7 (.bin .eql (.r 6) (.k (.v (.string ⟨#[]⟩)))), oA 8 (kM 7), ⟨(some 9), (some ((8, false))), none, (kM 3)⟩, ⟨(some 10), (some ((8, false))), none, (.idxs (.r 9) (kI 0))⟩, ⟨(some 11), (some ((8, false))), (some (.r 10)), (.call 52 [.r 10])⟩, ⟨(some 12), (some ((8, false))), none, (.not (.r 11))⟩, oA 13 (.pick (.r 8) (kB true) (.r 12)), oA 14 (kM 13), ⟨(some 15), (some ((14, false))), none, (kM 3)⟩, ⟨(some 16), (some ((14, false))), none, (.bin .add (.k (.v (.string ⟨#[32]⟩))) (.r 15))⟩, ⟨(some 17), (some ((14, false))), none, (.bin .add (.r 16) (.k (.v (.string ⟨#[32]⟩))))⟩, ⟨(some 18), (some ((14, false))), none, (.call 71 [.k (.v (.string ⟨#[32, 116, 111, 112, 32, 98, 111, 116, 32, 110, 111, 116, 32, 97, 110, 100, 32, 111, 114, 32, 115, 111, 109, 101, 32, 97, 108, 108, 32, 99, 111, 110, 99, 101, 112, 116, 32, 114, 111, 108, 101, 32, 105, 110, 100, 32]⟩)), .r 17])⟩, oA 19 (.pick (.r 14) (kB true) (.r 18))]) (.cond (.r 19) (.reg [oA 20 (.build [] []), oA 21 (.mki 66 (.r 20)), oN (.pan (.r 21))]) .skip)) (.seq (.reg [oA 22 (kM 0), oA 23 (kM 0), oA 24 (.nchk (.r 23)), oA 25 (.fadr 1 (.r 24)), oL 26 25 none, oA 27 (.slc 1 (.r 26) (some (kI 1)) none), oA 28 (.nchk (.r 22)), oA 29 (.fadr 1 (.r 28)), oN (.store 1 (.r 29) (.r 27))]) (.seq (.reg [oA 30 (kM 3), oA 2 (kM 30)]) .ret)))))⟩
theorem c60 : cfunc Tryz.prog 60 = some ir60 := by kernel_rfl
theorem k60 : okIR (max 1 ir60.n) ir60.ir = true := by decide +kernel
def ir59 : IFn := ⟨18, [], (.seq (.reg [oA 4 (.box 68 (.r 0)), oA 5 (.box 9 (.r 1)), oA 6 (.box 97 (.r 2)), oA 7 (.box 95 (.r 3))]) (.draw [oL 8 4 none, oL 9 4 none, oA 10 (.nchk (.r 9)), oA 11 (.fadr 3 (.r 10)), oL 12 11 none, oA 13 (.mkf (.func 75) [] [.r 6, .r 4, .r 5, .r 7]), oA 14 (.bsl 1 1 [.v .nilFunc] [(0, (1, .r 13))]), oA 15 (.app 1 8 (.r 12) (.r 14)), oA 16 (.nchk (.r 8)), oA 17 (.fadr 3 (.r 16)), oN (.store 1 (.r 17) (.r 15))] [(0, 7)]))⟩
theorem c59 : cfunc Tryz.prog 59 = some ir59 := by kernel_rfl
theorem k59 : okIR (max 4 ir59.n) ir59.ir = true := by decide +kernel
def ir75 : IFn := ⟨22, [], (.seq (.draw [oL 5 0 none, oL 6 1 none, oA 7 (.nchk (.r 6)), oA 8 (.fadr 0 (.r 7)), oL 9 8 none, oA 10 (.callv (.r 9) []), oT 11 10 (.callv (.r 5) [.r 10]), oL 12 2 none, oA 13 (.call 76 [.r 11, .r 12]), oA 4 (kM 13)] [(0, 5), (7, 5), (7, 6)]) (.seq (.seq (.reg [oA 14 (kM 4), oA 15 (.bin .lss (.r 14) (kI 0))]) (.cond (.r 15) (.seq (.reg [oL 16 1 none, oA 17 (.nchk (.r 16)), oA 18 (.fadr 2 (.r 17)), oN (.store 1 (.r 18) (kB true))]) .ret) .skip)) (.reg [oL 19 3 none, oA 20 (kM 4), oT 21 20 (.callv (.r 19) [.r 20])])))⟩
theorem c75 : cfunc Tryz.prog 75 = some ir75 := by kernel_rfl
theorem k75 : okIR (max 4 ir75.n) ir75.ir = true := by decide +kernel
def ir57 : IFn := ⟨14, [], (.seq (.reg [oA 3 (.box 95 (.r 1))]) (.seq (.reg [oA 6 (kM 0), oT 7 6 (.call 60 [.r 6]), oA 4 (kM 7)]) (.seq (.reg [oA 5 (.alloc 3 [.v (.int .i64 0)]), oN (.store 1 (.r 5) (kI 0))]) (.seq (.seq (.reg [oA 8 (kM 0), oA 9 (.call 55 [.r 8, .k (.v (.string ⟨#[45]⟩))])]) (.cond (.r 9) (.reg [oN (.store 1 (.r 5) (kI 1))]) .skip)) (.reg [oA 10 (kM 0), oA 11 (kM 4), oA 12 (.mkf (.func 74) [] [.r 3, .r 5]), oA 13 (.call 59 [.r 10, .r 11, .k (.fn (.func 73) [] []), .r 12])])))))⟩
theorem c57 : cfunc Tryz.prog 57 = some ir57 := by kernel_rfl
theorem k57 : okIR (max 2 ir57.n) ir57.ir = true := by decide +kernel
def ir73 : IFn := ⟨5, [⟨2, none⟩], (.seq (.reg [oA 1 (.box 24 (.r 0)), oA 2 (.mov (.k (.sl .nil 0 [])))]) (.seq (.reg [oA 3 (.fadr 1 (.r 1)), oL 4 3 none, oA 2 (kM 4)]) .ret))⟩
theorem c73 : cfunc Tryz.prog 73 = some ir73 := by kernel_rfl
theorem k73 : okIR (max 1 ir73.n) ir73.ir = true := by decide +kernel
def ir74 : IFn := ⟨10, [], (.reg [oL 4 1 none, oA 5 (kM 0), oA 6 (.bin .mul (kI 2) (.r 5)), oL 7 2 none, oA 8 (.bin .add (.r 6) (.r 7)), oT 9 8 (.callv (.r 4) [.r 8])])⟩
theorem c74 : cfunc Tryz.prog 74 = some ir74 := by kernel_rfl
theorem k74 : okIR (max 3 ir74.n) ir74.ir = true := by decide +kernel
def ir37 : IFn := ⟨19, [], (.seq (.seq (.reg [oA 4 (kM 0), oA 5 (.nchk (.r 4)), oA 6 (.fadr 3 (.r 5)), oL 7 6 none, oT 8 7 (.lenl (.r 7)), oA 9 (.mov (kI 0))]) (.block 0 (.loop (.seq (.reg [oA 10 (.bin .lss (.r 9) (.r 8))]) (.seq (.cond (.r 10) .skip (.exit 0)) (.seq (.block 1 (.seq (.reg [oA 11 (.iasl 1 (.r 7) (.r 9)), oL 12 11 none, oA 3 (kM 12)]) (.reg [oA 13 (kM 3), oA 14 (.callv (.r 13) [])]))) (.reg [oA 15 (.bin .add (.r 9) (kI 1)), oA 9 (kM 15)]))))))) (.reg [oA 16 (kM 0), oA 17 (.nchk (.r 16)), oA 18 (.fadr 3 (.r 17)), oN (.store 1 (.r 18) (.k (.sl .nil 0 [])))]))⟩
theorem c37 : cfunc Tryz.prog 37 = some ir37 := by kernel_rfl
theorem k37 : okIR (max 1 ir37.n) ir37.ir = true := by decide +kernel
def ir38 : IFn := ⟨28, [⟨2, (some (some 3))⟩], (.seq (.reg [oA 2 (.alloc 27 [.v (.int .i64 0), .v (.int .i64 0), .sl .nil 0 []])]) (.seq (.reg [oA 6 (kM 0), oA 7 (.nchk (.r 6)), oA 8 (.fadr 0 (.r 7)), oL 9 8 (some 3), oA 3 (.alloc 27 [.v (.int .i64 0), .v (.int .i64 0), .sl .nil 0 []]), oN (.store 3 (.r 3) (.r 9))]) (.seq (.seq (.reg [oA 10 (kM 0), oA 11 (.nchk (.r 10)), oA 12 (.fadr 3 (.r 11)), oL 13 12 none, oT 14 13 (.lenl (.r 13)), oA 15 (.mov (kI 0))]) (.block 0 (.loop (.seq (.reg [oA 16 (.bin .lss (.r 15) (.r 14))]) (.seq (.cond (.r 16) .skip (.exit 0)) (.seq (.block 1 (.seq (.reg [oA 17 (.iasl 1 (.r 13) (.r 15)), oL 18 17 none, oA 5 (kM 18)]) (.draw [oA 19 (.fadr 2 (.r 3)), oL 20 19 none, oA 21 (kM 5), oT 22 21 (.call 38 [.r 21]), oA 23 (.bsl 1 3 [.v (.int .i64 0), .v (.int .i64 0), .sl .nil 0 []] [(0, (3, .r 22))]), oA 24 (.app 3 40 (.r 20) (.r 23)), oA 25 (.fadr 2 (.r 3)), oN (.store 1 (.r 25) (.r 24))] [(1, 3)]))) (.reg [oA 26 (.bin .add (.r 15) (kI 1)), oA 15 (kM 26)]))))))) (.seq (.reg [oL 27 3 (some 3), oN (.store 3 (.r 2) (.r 27))]) .ret))))⟩
theorem c38 : cfunc Tryz.prog 38 = some ir38 := by kernel_rfl
theorem k38 : okIR (max 1 ir38.n) ir38.ir = true := by decide +kernel
def ir76 : IFn := ⟨19, [⟨4, none⟩], (.seq (.reg [oA 4 (.mov (kI 0))]) (.seq (.seq (.reg [oA 6 (kM 0), oT 7 6 (.lenl (.r 6)), oA 8 (.mov (kI 0))]) (.block 0 (.loop (.seq (.reg [oA 9 (.bin .lss (.r 8) (.r 7))]) (.seq (.cond (.r 9) .skip (.exit 0)) (.seq (.block 1 (.seq (.reg [oA 10 (kM 8), oA 5 (kM 10)]) (.seq (.reg [oA 11 (kM 1), oA 12 (kM 0), oA 13 (kM 5), oA 14 (.iasl 1 (.r 12) (.r 13)), oL 15 14 none, oA 16 (.bin .eql (.r 11) (.r 15))]) (.cond (.r 16) (.seq (.reg [oA 17 (kM 5), oA 4 (kM 17)]) .ret) .skip)))) (.reg [oA 18 (.bin .add (.r 8) (kI 1)), oA 8 (kM 18)]))))))) (.seq (.reg [oA 4 (.mov (kI (-1)))]) .ret)))⟩
theorem c76 : cfunc Tryz.prog 76 = some ir76 := by kernel_rfl
theorem k76 : okIR (max 2 ir76.n) ir76.ir = true := by decide +kernel
def ir17 : IFn := ⟨21, [⟨4, (some (some 3))⟩, ⟨5, none⟩], (.seq (.reg [oA 2 (.box 24 (.r 0)), oA 3 (.box 27 (.r 1)), oA 4 (.alloc 27 [.v (.int .i64 0), .v (.int .i64 0), .sl .nil 0 []]), oA 5 (.mov (kI 0))]) (.seq (.seq (.reg [oL 7 2 (some 3), oL 8 3 (some 3), oA 9 (.bsl 1 3 [.v (.int .i64 0), .v (.int .i64 0), .sl .nil 0 []] [(0, (3, .r 8))]), oA 10 (.call 19 [.r 7, .r 9]), oA 6 (kM 10)]) (.seq (.reg [oA 11 (kM 6), oA 12 (.bin .neq (.r 11) (kI 0))]) (.cond (.r 12) (.seq (.reg [oA 13 (.build [.v (.int .i64 0), .v (.int .i64 0), .sl .nil 0 []] []), oA 14 (kM 6), oN (.store 3 (.r 4) (.r 13)), oA 5 (kM 14)]) .ret) .skip))) (.seq (.draw [oL 15 2 (some 3), oL 16 3 (some 3), oA 17 (.call 41 [.r 16, .k (.v (.bool false))]), oA 18 (.call 40 [.r 15, .r 17]), oA 19 (.ext (.r 18) 0), oA 20 (.ext (.r 18) 1), oN (.store 3 (.r 4) (.r 19)), oA 5 (kM 20)] [(0, 2)]) .ret)))⟩
theorem c17 : cfunc Tryz.prog 17 = some ir17 := by kernel_rfl
theorem k17 : okIR (max 2 ir17.n) ir17.ir = true := by decide +kernel
def ir40 : IFn := ⟨13, [⟨4, (some (some 3))⟩, ⟨5, none⟩], (.seq (.reg [oA 2 (.box 24 (.r 0)), oA 3 (.box 27 (.r 1)), oA 4 (.alloc 27 [.v (.int .i64 0), .v (.int .i64 0), .sl .nil 0 []]), oA 5 (.mov (kI 0))]) (.seq (.reg [oA 6 (.alloc 3 [.v (.int .i64 0)]), oN (.store 1 (.r 6) (kI 400))]) (.seq (.seq (.reg [oL 7 2 (some 3), oL 8 3 (some 3), oA 9 (.call 39 [.r 7, .r 8, .r 6]), oA 10 (.not (.r 9))]) (.cond (.r 10) (.seq (.reg [oA 11 (.build [.v (.int .i64 0), .v (.int .i64 0), .sl .nil 0 []] []), oN (.store 3 (.r 4) (.r 11)), oA 5 (.mov (kI 2))]) .ret) .skip)) (.seq (.reg [oL 12 3 (some 3), oN (.store 3 (.r 4) (.r 12)), oA 5 (.mov (kI 0))]) .ret))))⟩
theorem c40 : cfunc Tryz.prog 40 = some ir40 := by kernel_rfl
theorem k40 : okIR (max 2 ir40.n) ir40.ir = true := by decide +kernel
def ir41 : IFn := ⟨58, [⟨4, (some (some 3))⟩], (.seq (.reg [oA 2 (.box 27 (.r 0)), oA 4 (.alloc 27 [.v (.int .i64 0), .v (.int .i64 0), .sl .nil 0 []])]) (.seq (.seq (.reg [oA 8 (.fadr 0 (.r 2)), oL 9 8 none]) (.block 0 (.seq (.reg [oA 11 (.bin .eql (.r 9) (kI 0)), oA 10 (kM 11)]) (.cond (.r 10) (.seq (.seq (.reg [oA 12 (kM 1)]) (.cond (.r 12) (.seq (.reg [oA 13 (.fadr 1 (.r 2)), oL 14 13 none, oA 15 (.build [.v (.int .i64 0), .v (.int .i64 0), .sl .nil 0 []] [(0, (1, .k (.v (.int .i64 0)))), (1, (1, .r 14))]), oA 16 (.bsl 1 3 [.v (.int .i64 0), .v (.int .i64 0), .sl .nil 0 []] [(0, (3, .r 15))]), oA 17 (.build [.v (.int .i64 0), .v (.int .i64 0), .sl .nil 0 []] [(0, (1, .k (.v (.int .i64 3)))), (2, (1, .r 16))]), oN (.store 3 (.r 4) (.r 17))]) .ret) .skip)) (.seq (.reg [oA 18 (.fadr 1 (.r 2)), oL 19 18 none, oA 20 (.build [.v (.int .i64 0), .v (.int .i64 0), .sl .nil 0 []] [(0, (1, .k (.v (.int .i64 0)))), (1, (1, .r 19))]), oN (.store 3 (.r 4) (.r 20))]) .ret)) (.seq (.reg [oA 22 (.bin .eql (.r 9) (kI 3)), oA 21 (kM 22)]) (.cond (.r 21) (.seq (.reg [oA 23 (.fadr 2 (.r 2)), oL 24 23 none, oA 25 (.iasl 3 (.r 24) (kI 0)), oL 26 25 (some 3), oA 27 (kM 1), oA 28 (.not (.r 27)), oA 29 (.call 41 [.r 26, .r 28]), oN (.store 3 (.r 4) (.r 29))]) .ret) .skip)))))) (.seq (.reg [oA 30 (.fadr 0 (.r 2)), oL 31 30 none, oA 32 (.fadr 1 (.r 2)), oL 33 32 none, oA 34 (.build [.v (.int .i64 0), .v (.int .i64 0), .sl .nil 0 []] [(0, (1, .r 31)), (1, (1, .r 33))]), oA 5 (.alloc 27 [.v (.int .i64 0), .v (.int .i64 0), .sl .nil 0 []]), oN (.store 3 (.r 5) (.r 34))]) (.seq (.seq (.reg [oA 35 (kM 1)]) (.cond (.r 35) (.reg [oA 36 (.fadr 0 (.r 2)), oL 37 36 none, oA 38 (.iaar 8 1 (.g 0) (.r 37)), oL 39 38 none, oA 40 (.fadr 0 (.r 5)), oN (.store 1 (.r 40) (.r 39))]) .skip)) (.seq (.seq (.reg [oA 41 (.fadr 2 (.r 2)), oL 42 41 none, oT 43 42 (.lenl (.r 42)), oA 44 (.mov (kI 0))]) (.block 1 (.loop (.seq (.reg [oA 45 (.bin .lss (.r 44) (.r 43))]) (.seq (.cond (.r 45) .skip (.exit 1)) (.seq (.block 2 (.seq (.reg [oA 46 (.iasl 3 (.r 42) (.r 44)), oL 47 46 (some 3), oA 7 (.alloc 27 [.v (.int .i64 0), .v (.int .i64 0), .sl .nil 0 []]), oN (.store 3 (.r 7) (.r 47))]) (.draw [oA 48 (.fadr 2 (.r 5)), oL 49 48 none, oL 50 7 (some 3), oA 51 (kM 1), oA 52 (.call 41 [.r 50, .r 51]), oA 53 (.bsl 1 3 [.v (.int .i64 0), .v (.int .i64 0), .sl .nil 0 []] [(0, (3, .r 52))]), oA 54 (.app 3 40 (.r 49) (.r 53)), oA 55 (.fadr 2 (.r 5)), oN (.store 1 (.r 55) (.r 54))] [(1, 4)]))) (.reg [oA 56 (.bin .add (.r 44) (kI 1)), oA 44 (kM 56)]))))))) (.seq (.reg [oL 57 5 (some 3), oN (.store 3 (.r 4) (.r 57))]) .ret))))))⟩
theorem c41 : cfunc Tryz.prog 41 = some ir41 := by kernel_rfl
theorem k41 : okIR (max 2 ir41.n) ir41.ir = true := by decide +kernel
def ir18 : IFn := ⟨17, [⟨4, none⟩, ⟨5, none⟩], (.seq (.reg [oA 2 (.box 24 (.r 0)), oA 3 (.box 27 (.r 1)), oA 4 (.mov (.k (.v (.string ⟨#[]⟩)))), oA 5 (.mov (kI 0))]) (.seq (.seq (.reg [oL 7 2 (some 3), oL 8 3 (some 3), oA 9 (.bsl 1 3 [.v (.int .i64 0), .v (.int .i64 0), .sl .nil 0 []] [(0, (3, .r 8))]), oA 10 (.call 19 [.r 7, .r 9]), oA 6 (kM 10)]) (.seq (.reg [oA 11 (kM 6), oA 12 (.bin .neq (.r 11) (kI 0))]) (.cond (.r 12) (.seq (.reg [oA 13 (kM 6), oA 4 (.mov (.k (.v (.string ⟨#[]⟩)))), oA 5 (kM 13)]) .ret) .skip))) (.seq (.reg [oL 14 2 (some 3), oL 15 3 (some 3), oA 16 (.call 21 [.r 14, .r 15]), oA 4 (kM 16), oA 5 (.mov (kI 0))]) .ret)))⟩
theorem c18 : cfunc Tryz.prog 18 = some ir18 := by kernel_rfl
theorem k18 : okIR (max 2 ir18.n) ir18.ir = true := by decide +kernel
def ir21 : IFn := ⟨92, [⟨4, none⟩], (.seq (.reg [oA 2 (.box 24 (.r 0)), oA 3 (.box 27 (.r 1)), oA 4 (.mov (.k (.v (.string ⟨#[]⟩))))]) (.seq (.seq (.reg [oA 5 (.fadr 0 (.r 3)), oL 6 5 none]) (.block 0 (.seq (.reg [oA 8 (.bin .eql (.r 6) (kI 0)), oA 7 (kM 8)]) (.cond (.r 7) (.seq (.reg [oA 9 (.fadr 0 (.r 2)), oL 10 9 none, oA 11 (.fadr 1 (.r 3)), oL 12 11 none, oA 13 (.iasl 1 (.r 10) (.r 12)), oL 14 13 none, oA 4 (kM 14)]) .ret) (.seq (.reg [oA 16 (.bin .eql (.r 6) (kI 1)), oA 15 (kM 16)]) (.cond (.r 15) (.seq (.reg [oA 4 (.mov (.k (.v (.string ⟨#[116, 111, 112]⟩))))]) .ret) (.seq (.reg [oA 18 (.bin .eql (.r 6) (kI 2)), oA 17 (kM 18)]) (.cond (.r 17) (.seq (.reg [oA 4 (.mov (.k (.v (.string ⟨#[98, 111, 116]⟩))))]) .ret) (.seq (.reg [oA 20 (.bin .eql (.r 6) (kI 3)), oA 19 (kM 20)]) (.cond (.r 19) (.seq (.draw [oL 21 2 (some 3), oA 22 (.fadr 2 (.r 3)), oL 23 22 none, oA 24 (.iasl 3 (.r 23) (kI 0)), oL 25 24 (some 3), oA 26 (.call 21 [.r 21, .r 25]), oA 27 (.bin .add (.k (.v (.string ⟨#[110, 111, 116, 32]⟩))) (.r 26)), oA 4 (kM 27)] []) .ret) (.seq (.reg [oA 29 (.bin .eql (.r 6) (kI 4)), oA 28 (kM 29)]) (.cond (.r 28) (.seq (.draw [oL 30 2 (some 3), oA 31 (.fadr 2 (.r 3)), oL 32 31 none, oA 33 (.iasl 3 (.r 32) (kI 0)), oL 34 33 (some 3), oA 35 (.call 21 [.r 30, .r 34]), oA 36 (.bin .add (.k (.v (.string ⟨#[40]⟩))) (.r 35)), oA 37 (.bin .add (.r 36) (.k (.v (.string ⟨#[32, 97, 110, 100, 32]⟩)))), oL 38 2 (some 3), oA 39 (.fadr 2 (.r 3)), oL 40 39 none, oA 41 (.iasl 3 (.r 40) (kI 1)), oL 42 41 (some 3), oA 43 (.call 21 [.r 38, .r 42]), oA 44 (.bin .add (.r 37) (.r 43)), oA 45 (.bin .add (.r 44) (.k (.v (.string ⟨#[41]⟩)))), oA 4 (kM 45)] [(8, 5), (10, 5), (12, 5)]) .ret) (.seq (.reg [oA 47 (.bin .eql (.r 6) (kI 5)), oA 46 (kM 47)]) (.cond (.r 46) (.seq (.draw [oL 48 2 (some 3), oA 49 (.fadr 2 (.r 3)), oL 50 49 none, oA 51 (.iasl 3 (.r 50) (kI 0)), oL 52 51 (some 3), oA 53 (.call 21 [.r 48, .r 52]), oA 54 (.bin .add (.k (.v (.string ⟨#[40]⟩))) (.r 53)), oA 55 (.bin .add (.r 54) (.k (.v (.string ⟨#[32, 111, 114, 32]⟩)))), oL 56 2 (some 3), oA 57 (.fadr 2 (.r 3)), oL 58 57 none, oA 59 (.iasl 3 (.r 58) (kI 1)), oL 60 59 (some 3), oA 61 (.call 21 [.r 56, .r 60]), oA 62 (.bin .add (.r 55) (.r 61)), oA 63 (.bin .add (.r 62) (.k (.v (.string ⟨#[41]⟩)))), oA 4 (kM 63)] [(8, 5), (10, 5), (12, 5)]) .ret) (.seq (.reg [oA 65 (.bin .eql (.r 6) (kI 6)), oA 64 (kM 65)]) (.cond (.r 64) (.seq (.draw [oL 66 2 (some 3), oA 67 (.fadr 1 (.r 3)), oL 68 67 none, oA 69 (.call 44 [.r 66, .r 68]), oA 70 (.bin .add (.k (.v (.string ⟨#[115, 111, 109, 101, 32]⟩))) (.r 69)), oA 71 (.bin .add (.r 70) (.k (.v (.string ⟨#[32]⟩)))), oL 72 2 (some 3), oA 73 (.fadr 2 (.r 3)), oL 74 73 none, oA 75 (.iasl 3 (.r 74) (kI 0)), oL 76 75 (some 3), oA 77 (.call 21 [.r 72, .r 76]), oA 78 (.bin .add (.r 71) (.r 77)), oA 4 (kM 78)] [(6, 3), (8, 3), (10, 3)]) .ret) .skip)))))))))))))))) (.seq (.draw [oL 79 2 (some 3), oA 80 (.fadr 1 (.r 3)), oL 81 80 none, oA 82 (.call 44 [.r 79, .r 81]), oA 83 (.bin .add (.k (.v (.string ⟨#[97, 108, 108, 32]⟩))) (.r 82)), oA 84 (.bin .add (.r 83) (.k (.v (.string ⟨#[32]⟩)))), oL 85 2 (some 3), oA 86 (.fadr 2 (.r 3)), oL 87 86 none, oA 88 (.iasl 3 (.r 87) (kI 0)), oL 89 88 (some 3), oA 90 (.call 21 [.r 85, .r 89]), oA 91 (.bin .add (.r 84) (.r 90)), oA 4 (kM 91)] [(6, 3), (8, 3), (10, 3)]) .ret)))⟩
theorem c21 : cfunc Tryz.prog 21 = some ir21 := by kernel_rfl
theorem k21 : okIR (max 2 ir21.n) ir21.ir = true := by decide +kernel
def ir44 : IFn := ⟨21, [⟨4, none⟩], (.seq (.reg [oA 2 (.box 24 (.r 0)), oA 4 (.mov (.k (.v (.string ⟨#[]⟩))))]) (.seq (.seq (.reg [oA 5 (kM 1), oA 6 (.bin .rem (.r 5) (kI 2)), oA 7 (.bin .eql (.r 6) (kI 1))]) (.cond (.r 7) (.seq (.reg [oA 8 (.fadr 1 (.r 2)), oL 9 8 none, oA 10 (kM 1), oA 11 (.bin .quo (.r 10) (kI 2)), oA 12 (.iasl 1 (.r 9) (.r 11)), oL 13 12 none, oA 14 (.bin .add (.r 13) (.k (.v (.string ⟨#[45]⟩)))), oA 4 (kM 14)]) .ret) .skip)) (.seq (.reg [oA 15 (.fadr 1 (.r 2)), oL 16 15 none, oA 17 (kM 1), oA 18 (.bin .quo (.r 17) (kI 2)), oA 19 (.iasl 1 (.r 16) (.r 18)), oL 20 19 none, oA 4 (kM 20)]) .ret)))⟩
theorem c44 : cfunc Tryz.prog 44 = some ir44 := by kernel_rfl
theorem k44 : okIR (max 2 ir44.n) ir44.ir = true := by decide +kernel
def ir16 : IFn := ⟨4, [⟨0, (some (some 3))⟩], (.seq (.reg [oA 0 (.alloc 24 [.sl .nil 0 [], .sl .nil 0 [], .sl .nil 0 []])]) (.seq (.reg [oA 1 (.bsl 2 1 [.v (.string ⟨#[]⟩)] [(0, (1, .k (.v (.string ⟨#[65]⟩)))), (1, (1, .k (.v (.string ⟨#[66]⟩))))]), oA 2 (.bsl 1 1 [.v (.string ⟨#[]⟩)] [(0, (1, .k (.v (.string ⟨#[114]⟩))))]), oA 3 (.build [.sl .nil 0 [], .sl .nil 0 [], .sl .nil 0 []] [(0, (1, .r 1)), (1, (1, .r 2))]), oN (.store 3 (.r 0) (.r 3))]) .ret))⟩
theorem c16 : cfunc Tryz.prog 16 = some ir16 := by kernel_rfl
theorem k16 : okIR (max 0 ir16.n) ir16.ir = true := by decide +kernel
def ir6 : IFn := ⟨60, [⟨0, none⟩], (.seq (.reg [oA 0 (.mov (kB false))]) (.seq (.reg [oA 12 (.call 16 []), oA 13 (.call 15 [.r 12, .k (.v (.string ⟨#[110, 111, 116, 32, 115, 111, 109, 101, 32, 114, 45, 32, 40, 65, 32, 97, 110, 100, 32, 110, 111, 116, 32, 66, 41]⟩))]), oA 11 (kM 13), oA 14 (.ext (.r 11) 0), oA 15 (.ext (.r 11) 1), oA 1 (.alloc 27 [.v (.int .i64 0), .v (.int .i64 0), .sl .nil 0 []]), oN (.store 3 (.r 1) (.r 14)), oA 2 (kM 15)]) (.seq (.draw [oL 18 1 (some 3), oA 3 (.alloc 27 [.v (.int .i64 0), .v (.int .i64 0), .sl .nil 0 []]), oA 17 (.call 16 []), oA 19 (.call 17 [.r 17, .r 18]), oA 16 (kM 19), oA 20 (.ext (.r 16) 0), oA 21 (.ext (.r 16) 1), oN (.store 3 (.r 3) (.r 20)), oA 4 (kM 21)] [(0, 2), (1, 2), (1, 3)]) (.seq (.draw [oA 23 (.call 16 []), oL 24 3 (some 3), oA 25 (.call 18 [.r 23, .r 24]), oA 22 (kM 25), oA 26 (.ext (.r 22) 0), oA 27 (.ext (.r 22) 1), oA 5 (kM 26), oA 6 (kM 27)] [(1, 0)]) (.seq (.reg [oA 29 (.call 16 []), oA 30 (.call 15 [.r 29, .k (.v (.string ⟨#[65, 32, 97, 110, 100, 32, 66]⟩))]), oA 28 (kM 30), oA 31 (.ext (.r 28) 0), oA 32 (.ext (.r 28) 1), oA 7 (.alloc 27 [.v (.int .i64 0), .v (.int .i64 0), .sl .nil 0 []]), oN (.store 3 (.r 7) (.r 31)), oA 8 (kM 32)]) (.seq (.reg [oA 34 (.call 16 []), oA 35 (.call 15 [.r 34, .k (.v (.string ⟨#[115, 111, 109, 101, 32, 65, 32, 66]⟩))]), oA 33 (kM 35), oA 36 (.ext (.r 33) 0), oA 37 (.ext (.r 33) 1), oA 9 (.alloc 27 [.v (.int .i64 0), .v (.int .i64 0), .sl .nil 0 []]), oN (.store 3 (.r 9) (.r 36)), oA 10 (kM 37)]) (.seq (.reg [oA 38 (kM 2), oA 39 (.bin .eql (.r 38) (kI 0)), oA 40 (kM 39), ⟨(some 41), (some ((40, true))), none, (kM 4)⟩, ⟨(some 42), (some ((40, true))), none, (.bin .eql (.r 41) (kI 0))⟩, oA 43 (.pick (.r 40) (.r 42) (kB false)), oA 44 (kM 43), ⟨(some 45), (some ((44, true))), none, (kM 6)⟩, ⟨(some 46), (some ((44, true))), none, (.bin .eql (.r 45) (kI 0))⟩, oA 47 (.pick (.r 44) (.r 46) (kB false)), oA 48 (kM 47), ⟨(some 49), (some ((48, true))), none, (kM 5)⟩, ⟨(some 50), (some ((48, true))), none, (.bin .eql (.r 49) (.k (.v (.string ⟨#[97, 108, 108, 32, 114, 45, 32, 40, 110, 111, 116, 32, 65, 32, 111, 114, 32, 66, 41]⟩))))⟩, oA 51 (.pick (.r 48) (.r 50) (kB false)), oA 52 (kM 51), ⟨(some 53), (some ((52, true))), none, (kM 8)⟩, ⟨(some 54), (some ((52, true))), none, (.bin .eql (.r 53) (kI 11))⟩, oA 55 (.pick (.r 52) (.r 54) (kB false)), oA 56 (kM 55), ⟨(some 57), (some ((56, true))), none, (kM 10)⟩, ⟨(some 58), (some ((56, true))), none, (.bin .eql (.r 57) (kI 10))⟩, oA 59 (.pick (.r 56) (.r 58) (kB false)), oA 0 (kM 59)]) .ret)))))))⟩
theorem c6 : cfunc Tryz.prog 6 = some ir6 := by kernel_rfl
theorem k6 : okIR (max 0 ir6.n) ir6.ir = true := by decide +kernel
def T1 (f : FuncId) : Option IFn :=
  if f = 15 then some ir15
  else if f = 31 then some ir31
  else if f = 34 then some ir34
  else if f = 32 then some ir32
  else if f = 33 then some ir33
  else if f = 35 then some ir35
  else if f = 58 then some ir58
  else if f = 61 then some ir61
  else if f = 62 then some ir62
  else if f = 36 then some ir36
  else if f = 55 then some ir55
  else if f = 56 then some ir56
  else if f = 60 then some ir60
  else if f = 59 then some ir59
  else if f = 75 then some ir75
  else if f = 57 then some ir57
  else if f = 73 then some ir73
  else if f = 74 then some ir74
  else if f = 37 then some ir37
  else if f = 38 then some ir38
  else if f = 76 then some ir76
  else if f = 17 then some ir17
  else if f = 40 then some ir40
  else if f = 41 then some ir41
  else if f = 18 then some ir18
  else if f = 21 then some ir21
  else if f = 44 then some ir44
  else if f = 16 then some ir16
  else if f = 6 then some ir6
  else if f = 52 then some ir52
  else if f = 53 then some ir53
  else if f = 39 then some ir39
  else if f = 63 then some ir63
  else if f = 19 then some ir19
  else none
theorem T1_ok : Tok' Tryz.prog T1 := by
  intro f k h
  unfold T1 at h
  by_cases q : f = 15
  · rw [if_pos q] at h; subst q; cases h; exact ⟨c15, by kernel_rfl⟩
  rw [if_neg q] at h; clear q
  by_cases q : f = 31
  · rw [if_pos q] at h; subst q; cases h; exact ⟨c31, by kernel_rfl⟩
  rw [if_neg q] at h; clear q
  by_cases q : f = 34
  · rw [if_pos q] at h; subst q; cases h; exact ⟨c34, by kernel_rfl⟩
  rw [if_neg q] at h; clear q
  by_cases q : f = 32
  · rw [if_pos q] at h; subst q; cases h; exact ⟨c32, by kernel_rfl⟩
  rw [if_neg q] at h; clear q
  by_cases q : f = 33
  · rw [if_pos q] at h; subst q; cases h; exact ⟨c33, by kernel_rfl⟩
  rw [if_neg q] at h; clear q
  by_cases q : f = 35
  · rw [if_pos q] at h; subst q; cases h; exact ⟨c35, by kernel_rfl⟩
  rw [if_neg q] at h; clear q
  by_cases q : f = 58
  · rw [if_pos q] at h; subst q; cases h; exact ⟨c58, by kernel_rfl⟩
  rw [if_neg q] at h; clear q
  by_cases q : f = 61
  · rw [if_pos q] at h; subst q; cases h; exact ⟨c61, by kernel_rfl⟩
  rw [if_neg q] at h; clear q
  by_cases q : f = 62
  · rw [if_pos q] at h; subst q; cases h; exact ⟨c62, by kernel_rfl⟩
  rw [if_neg q] at h; clear q
  by_cases q : f = 36
  · rw [if_pos q] at h; subst q; cases h; exact ⟨c36, by kernel_rfl⟩
  rw [if_neg q] at h; clear q
  by_cases q : f = 55
  · rw [if_pos q] at h; subst q; cases h; exact ⟨c55, by kernel_rfl⟩
  rw [if_neg q] at h; clear q
  by_cases q : f = 56
  · rw [if_pos q] at h; subst q; cases h; exact ⟨c56, by kernel_rfl⟩
  rw [if_neg q] at h; clear q
  by_cases q : f = 60
  · rw [if_pos q] at h; subst q; cases h; exact ⟨c60, by kernel_rfl⟩
  rw [if_neg q] at h; clear q
  by_cases q : f = 59
  · rw [if_pos q] at h; subst q; cases h; exact ⟨c59, by kernel_rfl⟩
  rw [if_neg q] at h; clear q
  by_cases q : f = 75
  · rw [if_pos q] at h; subst q; cases h; exact ⟨c75, by kernel_rfl⟩
  rw [if_neg q] at h; clear q
  by_cases q : f = 57
  · rw [if_pos q] at h; subst q; cases h; exact ⟨c57, by kernel_rfl⟩
  rw [if_neg q] at h; clear q
  by_cases q : f = 73
  · rw [if_pos q] at h; subst q; cases h; exact ⟨c73, by kernel_rfl⟩
  rw [if_neg q] at h; clear q
  by_cases q : f = 74
  · rw [if_pos q] at h; subst q; cases h; exact ⟨c74, by kernel_rfl⟩
  rw [if_neg q] at h; clear q
  by_cases q : f = 37
  · rw [if_pos q] at h; subst q; cases h; exact ⟨c37, by kernel_rfl⟩
  rw [if_neg q] at h; clear q
  by_cases q : f = 38
  · rw [if_pos q] at h; subst q; cases h; exact ⟨c38, by kernel_rfl⟩
  rw [if_neg q] at h; clear q
  by_cases q : f = 76
  · rw [if_pos q] at h; subst q; cases h; exact ⟨c76, by kernel_rfl⟩
  rw [if_neg q] at h; clear q
  by_cases q : f = 17
  · rw [if_pos q] at h; subst q; cases h; exact ⟨c17, by kernel_rfl⟩
  rw [if_neg q] at h; clear q
  by_cases q : f = 40
  · rw [if_pos q] at h; subst q; cases h; exact ⟨c40, by kernel_rfl⟩
  rw [if_neg q] at h; clear q
  by_cases q : f = 41
  · rw [if_pos q] at h; subst q; cases h; exact ⟨c41, by kernel_rfl⟩
  rw [if_neg q] at h; clear q
  by_cases q : f = 18
  · rw [if_pos q] at h; subst q; cases h; exact ⟨c18, by kernel_rfl⟩
  rw [if_neg q] at h; clear q
  by_cases q : f = 21
  · rw [if_pos q] at h; subst q; cases h; exact ⟨c21, by kernel_rfl⟩
  rw [if_neg q] at h; clear q
  by_cases q : f = 44
  · rw [if_pos q] at h; subst q; cases h; exact ⟨c44, by kernel_rfl⟩
  rw [if_neg q] at h; clear q
  by_cases q : f = 16
  · rw [if_pos q] at h; subst q; cases h; exact ⟨c16, by kernel_rfl⟩
  rw [if_neg q] at h; clear q
  by_cases q : f = 6
  · rw [if_pos q] at h; subst q; cases h; exact ⟨c6, by kernel_rfl⟩
  rw [if_neg q] at h; clear q
  by_cases q : f = 52
  · rw [if_pos q] at h; subst q; cases h; exact ⟨c52, by kernel_rfl⟩
  rw [if_neg q] at h; clear q
  by_cases q : f = 53
  · rw [if_pos q] at h; subst q; cases h; exact ⟨c53, by kernel_rfl⟩
  rw [if_neg q] at h; clear q
  by_cases q : f = 39
  · rw [if_pos q] at h; subst q; cases h; exact ⟨c39, by kernel_rfl⟩
  rw [if_neg q] at h; clear q
  by_cases q : f = 63
  · rw [if_pos q] at h; subst q; cases h; exact ⟨c63, by kernel_rfl⟩
  rw [if_neg q] at h; clear q
  by_cases q : f = 19
  · rw [if_pos q] at h; subst q; cases h; exact ⟨c19, by kernel_rfl⟩
  rw [if_neg q] at h; clear q
  cases h
def R1 (f : FuncId) : Bool := decide (f = 31)
theorem R1_ok : Rok Tryz.prog R1 := by
  intro g h
  simp only [R1, decide_eq_true_eq] at h
  subst h; kernel_rfl
theorem ev_awake1 (k : Int) : outV (xcall Tryz.prog (GG (GM1 k)) T1 R1 S1 400 60 6 [] AH.empty) (.bool true) = true := by kernel_rfl
theorem s_awake1 (k : Int) (j : JH) : JC Tryz.prog (GG (GM1 k)) 6 [] j (RET (BOO true) j) := JC.closed hmix GG_pure T1_ok R1_ok S1_ok S1_k (ev_awake1 k) j
end Go.Proofs.YtcajjicdbphkpaaGreatDoor.Pg
