/-
  The fixed calls of the statements about knowledge bases, reckoned.
-/
import Derived.Test.YtcjlpklgnknpgaaGreatDoorVb
import Derived.Test.YtcjlpklgnknpgaaGreatDoorQf
set_option linter.unusedVariables false
set_option linter.unusedSimpArgs false
set_option linter.defProp false
set_option maxRecDepth 100000
set_option maxHeartbeats 4000000
namespace Go.Proofs.YtcjlpklgnknpgaaGreatDoor.Pg
open Go
def toksF (sg : List UInt8) : Nat → List UInt8 → Option (List (List UInt8))
 | 0, _ => none
 | k + 1, l => match l with
  | [] => some []
  | b :: l => if b = 32 then toksF sg k l else if letB b then (toksF sg k (l.dropWhile witB)).map ((b :: l.takeWhile witB) :: ·) else if sg.contains b then (toksF sg k l).map ([b] :: ·) else none
theorem toksF_eq {sg : List UInt8} : ∀ (k : Nat) (l : List UInt8), l.length < k → toksF sg k l = toks sg l
 | 0, l, h => by omega
 | k + 1, [], h => by rw [toks_nil]; rfl
 | k + 1, b :: l, h => by
  have hl : l.length < k := by simp at h; omega
  have hd : (l.dropWhile witB).length < k := Nat.lt_of_le_of_lt (List.dropWhile_sublist witB (l := l)).length_le hl
  simp only [toksF, toks_cons, toksF_eq k l hl, toksF_eq k _ hd]
def S2 (f : FuncId) : Option (List AV → AH → Option (AOut × AH)) :=
 if f = 40 then some fun args h => match args with
  | [.v (.string s), .v (.string t)] => if s.size < 4294967281 ∧ 1 ≤ t.size then some (.ret (.sl .none (splitL s t).length (strs (splitL s t))), h) else none
  | _ => none
 else if f = 84 then some fun args h => match args with
  | [.sl _ n cs] => xo (decS cs) fun l => if n = l.length ∧ l.length ≤ 1000000 then some (.ret (.sl .none l.length (strs l)), h) else none
  | _ => none
 else if f = 10 then some fun args h => match args with
  | [.agg cs] => xo (decB cs) fun b => some (.ret (.tup [STR (kbS b), I64 (basE b)]), h)
  | _ => none
 else if f = 35 then some fun args h => match args with
  | [.agg cs] => xo (decB cs) fun b => some (.ret (BOO (basV b)), h)
  | _ => none
 else if f = 42 then some fun args h => match args with
  | [.v (.string s), .v (.string t)] => if s.size ≤ 1000000 then match toksF (bs t) (s.size + 1) (bs s) with
   | some ts => some (.ret (.sl .none ts.length (strs (ts.map ofL))), h)
   | none => some (.pan wrongV, h)
   else none
  | _ => none
 else S1 f
section
variable {m : GM}
theorem JC.callO {P : Program} {G : Nat → Option (List AV)} {f : FuncId} {args : List AV} {h : AH} {Y : AOut} (c : JC P G f args h.j fun o j' => o = Y ∧ j' = h.j) : CALL P G f args h fun q k => q = Y ∧ k = h :=
 fun B0 μ w vs r hv => (c h rfl B0 μ w vs r hv).mono fun _ _ ⟨o, h', ⟨e1, e2⟩, μ', st, p⟩ => ⟨Y, h, ⟨rfl, rfl⟩, μ', Step.ext e2 st, by subst e1; exact p⟩
theorem S2_ok : Sok Tryz.prog (GG m) S2 := by
 intro f s hf args h o h' e
 unfold S2 at hf
 split at hf
 ·rename_i q; subst q; cases hf
  dsimp only at e
  split at e
  ·split at e
   ·rename_i hq; cases e; exact JC.call (s_Split _ _ hq.1 hq.2 _)
   ·cases e
  ·cases e
 split at hf
 ·rename_i q; subst q; cases hf
  dsimp only at e
  split at e
  ·obtain ⟨l, e1, e⟩ := xo_some e
   split at e
   ·rename_i hq
    cases e
    refine JC.call (JC.weakS (s_CloneS l hq.2 _) ⟨SubB.sl hq.1 ?_, trivial⟩)
    rw [decS_eq e1]; exact SubBs.pure (strs_pur _)
   ·cases e
  ·cases e
 split at hf
 ·rename_i q; subst q; cases hf
  dsimp only at e
  split at e
  ·obtain ⟨b, e1, e⟩ := xo_some e
   cases e
   obtain ⟨h1, h2, h3⟩ := decB_sub (no := h.j.next) (nt := h.j.tnext) e1
   exact JC.call (JC.weakS (s_kbString b h2 h3 _) ⟨SubB.agg h1, trivial⟩)
  ·cases e
 split at hf
 ·rename_i q; subst q; cases hf
  dsimp only at e
  split at e
  ·obtain ⟨b, e1, e⟩ := xo_some e
   cases e
   obtain ⟨h1, h2, h3⟩ := decB_sub (no := h.j.next) (nt := h.j.tnext) e1
   exact JC.call (JC.weakS (s_kbValid b h2 h3 _) ⟨SubB.agg h1, trivial⟩)
  ·cases e
 split at hf
 ·rename_i q; subst q; cases hf
  dsimp only at e
  split at e
  ·rename_i s t
   split at e
   ·rename_i hs
    have k := s_Tokens (G := GG m) s t hs h.j
    rw [← toksF_eq (s.size + 1) (bs s) (by rw [bs_len]; omega)] at k
    cases hq : toksF (bs t) (s.size + 1) (bs s) with
    | some ts => rw [hq] at k e; cases e; exact JC.callO k
    | none => rw [hq] at k e; cases e; exact JC.callO k
   ·cases e
  ·cases e
 exact S1_ok f s hf args h o h' e
theorem S2_k : Sk S2 := by
 intro f s hf args h o h' e
 unfold S2 at hf
 split at hf
 ·cases hf
  dsimp only at e
  split at e
  ·split at e
   ·cases e; exact KL.refl _
   ·cases e
  ·cases e
 split at hf
 ·cases hf
  dsimp only at e
  split at e
  ·obtain ⟨l, e1, e⟩ := xo_some e
   split at e
   ·cases e; exact KL.refl _
   ·cases e
  ·cases e
 split at hf
 ·cases hf
  dsimp only at e
  split at e
  ·obtain ⟨b, e1, e⟩ := xo_some e
   cases e; exact KL.refl _
  ·cases e
 split at hf
 ·cases hf
  dsimp only at e
  split at e
  ·obtain ⟨b, e1, e⟩ := xo_some e
   cases e; exact KL.refl _
  ·cases e
 split at hf
 ·cases hf
  dsimp only at e
  split at e
  ·split at e
   ·split at e <;> (cases e; exact KL.refl _)
   ·cases e
  ·cases e
 exact S1_k f s hf args h o h' e
end
noncomputable def T2 (f : FuncId) : Option IFn :=
 if f = 9 then some ir9
 else if f = 11 then some ir11
 else if f = 17 then some ir17
 else if f = 24 then some ir24
 else if f = 41 then some ir41
 else if f = 44 then some ir44
 else if f = 45 then some ir45
 else if f = 46 then some ir46
 else if f = 47 then some ir47
 else if f = 39 then some ir39
 else if f = 43 then some ir43
 else if f = 55 then some ir55
 else if f = 37 then some ir37
 else if f = 201 then some ir201
 else if f = 204 then some ir204
 else if f = 205 then some ir205
 else if f = 206 then some ir206
 else if f = 80 then some ir80
 else if f = 81 then some ir81
 else if f = 82 then some ir82
 else if f = 83 then some ir83
 else if f = 202 then some ir202
 else if f = 203 then some ir203
 else if f = 77 then some ir77
 else if f = 111 then some ir111
 else if f = 112 then some ir112
 else if f = 114 then some ir114
 else if f = 113 then some ir113
 else if f = 115 then some ir115
 else if f = 116 then some ir116
 else if f = 118 then some ir118
 else if f = 121 then some ir121
 else if f = 127 then some ir127
 else if f = 119 then some ir119
 else if f = 120 then some ir120
 else if f = 123 then some ir123
 else if f = 122 then some ir122
 else if f = 124 then some ir124
 else if f = 126 then some ir126
 else if f = 128 then some ir128
 else if f = 131 then some ir131
 else if f = 153 then some ir153
 else if f = 152 then some ir152
 else if f = 117 then some ir117
 else if f = 154 then some ir154
 else if f = 155 then some ir155
 else if f = 157 then some ir157
 else if f = 159 then some ir159
 else if f = 158 then some ir158
 else if f = 125 then some ir125
 else if f = 129 then some ir129
 else if f = 130 then some ir130
 else if f = 132 then some ir132
 else if f = 156 then some ir156
 else if f = 160 then some ir160
 else none
theorem T2_ok : Tok' Tryz.prog T2 := by
 intro f k h
 unfold T2 at h
 by_cases q : f = 9
 ·rw [if_pos q] at h; subst q; cases h; exact ⟨c9, by kernel_rfl⟩
 rw [if_neg q] at h; clear q
 by_cases q : f = 11
 ·rw [if_pos q] at h; subst q; cases h; exact ⟨c11, by kernel_rfl⟩
 rw [if_neg q] at h; clear q
 by_cases q : f = 17
 ·rw [if_pos q] at h; subst q; cases h; exact ⟨c17, by kernel_rfl⟩
 rw [if_neg q] at h; clear q
 by_cases q : f = 24
 ·rw [if_pos q] at h; subst q; cases h; exact ⟨c24, by kernel_rfl⟩
 rw [if_neg q] at h; clear q
 by_cases q : f = 41
 ·rw [if_pos q] at h; subst q; cases h; exact ⟨c41, by kernel_rfl⟩
 rw [if_neg q] at h; clear q
 by_cases q : f = 44
 ·rw [if_pos q] at h; subst q; cases h; exact ⟨c44, by kernel_rfl⟩
 rw [if_neg q] at h; clear q
 by_cases q : f = 45
 ·rw [if_pos q] at h; subst q; cases h; exact ⟨c45, by kernel_rfl⟩
 rw [if_neg q] at h; clear q
 by_cases q : f = 46
 ·rw [if_pos q] at h; subst q; cases h; exact ⟨c46, by kernel_rfl⟩
 rw [if_neg q] at h; clear q
 by_cases q : f = 47
 ·rw [if_pos q] at h; subst q; cases h; exact ⟨c47, by kernel_rfl⟩
 rw [if_neg q] at h; clear q
 by_cases q : f = 39
 ·rw [if_pos q] at h; subst q; cases h; exact ⟨c39, by kernel_rfl⟩
 rw [if_neg q] at h; clear q
 by_cases q : f = 43
 ·rw [if_pos q] at h; subst q; cases h; exact ⟨c43, by kernel_rfl⟩
 rw [if_neg q] at h; clear q
 by_cases q : f = 55
 ·rw [if_pos q] at h; subst q; cases h; exact ⟨c55, by kernel_rfl⟩
 rw [if_neg q] at h; clear q
 by_cases q : f = 37
 ·rw [if_pos q] at h; subst q; cases h; exact ⟨c37, by kernel_rfl⟩
 rw [if_neg q] at h; clear q
 by_cases q : f = 201
 ·rw [if_pos q] at h; subst q; cases h; exact ⟨c201, by kernel_rfl⟩
 rw [if_neg q] at h; clear q
 by_cases q : f = 204
 ·rw [if_pos q] at h; subst q; cases h; exact ⟨c204, by kernel_rfl⟩
 rw [if_neg q] at h; clear q
 by_cases q : f = 205
 ·rw [if_pos q] at h; subst q; cases h; exact ⟨c205, by kernel_rfl⟩
 rw [if_neg q] at h; clear q
 by_cases q : f = 206
 ·rw [if_pos q] at h; subst q; cases h; exact ⟨c206, by kernel_rfl⟩
 rw [if_neg q] at h; clear q
 by_cases q : f = 80
 ·rw [if_pos q] at h; subst q; cases h; exact ⟨c80, by kernel_rfl⟩
 rw [if_neg q] at h; clear q
 by_cases q : f = 81
 ·rw [if_pos q] at h; subst q; cases h; exact ⟨c81, by kernel_rfl⟩
 rw [if_neg q] at h; clear q
 by_cases q : f = 82
 ·rw [if_pos q] at h; subst q; cases h; exact ⟨c82, by kernel_rfl⟩
 rw [if_neg q] at h; clear q
 by_cases q : f = 83
 ·rw [if_pos q] at h; subst q; cases h; exact ⟨c83, by kernel_rfl⟩
 rw [if_neg q] at h; clear q
 by_cases q : f = 202
 ·rw [if_pos q] at h; subst q; cases h; exact ⟨c202, by kernel_rfl⟩
 rw [if_neg q] at h; clear q
 by_cases q : f = 203
 ·rw [if_pos q] at h; subst q; cases h; exact ⟨c203, by kernel_rfl⟩
 rw [if_neg q] at h; clear q
 by_cases q : f = 77
 ·rw [if_pos q] at h; subst q; cases h; exact ⟨c77, by kernel_rfl⟩
 rw [if_neg q] at h; clear q
 by_cases q : f = 111
 ·rw [if_pos q] at h; subst q; cases h; exact ⟨c111, by kernel_rfl⟩
 rw [if_neg q] at h; clear q
 by_cases q : f = 112
 ·rw [if_pos q] at h; subst q; cases h; exact ⟨c112, by kernel_rfl⟩
 rw [if_neg q] at h; clear q
 by_cases q : f = 114
 ·rw [if_pos q] at h; subst q; cases h; exact ⟨c114, by kernel_rfl⟩
 rw [if_neg q] at h; clear q
 by_cases q : f = 113
 ·rw [if_pos q] at h; subst q; cases h; exact ⟨c113, by kernel_rfl⟩
 rw [if_neg q] at h; clear q
 by_cases q : f = 115
 ·rw [if_pos q] at h; subst q; cases h; exact ⟨c115, by kernel_rfl⟩
 rw [if_neg q] at h; clear q
 by_cases q : f = 116
 ·rw [if_pos q] at h; subst q; cases h; exact ⟨c116, by kernel_rfl⟩
 rw [if_neg q] at h; clear q
 by_cases q : f = 118
 ·rw [if_pos q] at h; subst q; cases h; exact ⟨c118, by kernel_rfl⟩
 rw [if_neg q] at h; clear q
 by_cases q : f = 121
 ·rw [if_pos q] at h; subst q; cases h; exact ⟨c121, by kernel_rfl⟩
 rw [if_neg q] at h; clear q
 by_cases q : f = 127
 ·rw [if_pos q] at h; subst q; cases h; exact ⟨c127, by kernel_rfl⟩
 rw [if_neg q] at h; clear q
 by_cases q : f = 119
 ·rw [if_pos q] at h; subst q; cases h; exact ⟨c119, by kernel_rfl⟩
 rw [if_neg q] at h; clear q
 by_cases q : f = 120
 ·rw [if_pos q] at h; subst q; cases h; exact ⟨c120, by kernel_rfl⟩
 rw [if_neg q] at h; clear q
 by_cases q : f = 123
 ·rw [if_pos q] at h; subst q; cases h; exact ⟨c123, by kernel_rfl⟩
 rw [if_neg q] at h; clear q
 by_cases q : f = 122
 ·rw [if_pos q] at h; subst q; cases h; exact ⟨c122, by kernel_rfl⟩
 rw [if_neg q] at h; clear q
 by_cases q : f = 124
 ·rw [if_pos q] at h; subst q; cases h; exact ⟨c124, by kernel_rfl⟩
 rw [if_neg q] at h; clear q
 by_cases q : f = 126
 ·rw [if_pos q] at h; subst q; cases h; exact ⟨c126, by kernel_rfl⟩
 rw [if_neg q] at h; clear q
 by_cases q : f = 128
 ·rw [if_pos q] at h; subst q; cases h; exact ⟨c128, by kernel_rfl⟩
 rw [if_neg q] at h; clear q
 by_cases q : f = 131
 ·rw [if_pos q] at h; subst q; cases h; exact ⟨c131, by kernel_rfl⟩
 rw [if_neg q] at h; clear q
 by_cases q : f = 153
 ·rw [if_pos q] at h; subst q; cases h; exact ⟨c153, by kernel_rfl⟩
 rw [if_neg q] at h; clear q
 by_cases q : f = 152
 ·rw [if_pos q] at h; subst q; cases h; exact ⟨c152, by kernel_rfl⟩
 rw [if_neg q] at h; clear q
 by_cases q : f = 117
 ·rw [if_pos q] at h; subst q; cases h; exact ⟨c117, by kernel_rfl⟩
 rw [if_neg q] at h; clear q
 by_cases q : f = 154
 ·rw [if_pos q] at h; subst q; cases h; exact ⟨c154, by kernel_rfl⟩
 rw [if_neg q] at h; clear q
 by_cases q : f = 155
 ·rw [if_pos q] at h; subst q; cases h; exact ⟨c155, by kernel_rfl⟩
 rw [if_neg q] at h; clear q
 by_cases q : f = 157
 ·rw [if_pos q] at h; subst q; cases h; exact ⟨c157, by kernel_rfl⟩
 rw [if_neg q] at h; clear q
 by_cases q : f = 159
 ·rw [if_pos q] at h; subst q; cases h; exact ⟨c159, by kernel_rfl⟩
 rw [if_neg q] at h; clear q
 by_cases q : f = 158
 ·rw [if_pos q] at h; subst q; cases h; exact ⟨c158, by kernel_rfl⟩
 rw [if_neg q] at h; clear q
 by_cases q : f = 125
 ·rw [if_pos q] at h; subst q; cases h; exact ⟨c125, by kernel_rfl⟩
 rw [if_neg q] at h; clear q
 by_cases q : f = 129
 ·rw [if_pos q] at h; subst q; cases h; exact ⟨c129, by kernel_rfl⟩
 rw [if_neg q] at h; clear q
 by_cases q : f = 130
 ·rw [if_pos q] at h; subst q; cases h; exact ⟨c130, by kernel_rfl⟩
 rw [if_neg q] at h; clear q
 by_cases q : f = 132
 ·rw [if_pos q] at h; subst q; cases h; exact ⟨c132, by kernel_rfl⟩
 rw [if_neg q] at h; clear q
 by_cases q : f = 156
 ·rw [if_pos q] at h; subst q; cases h; exact ⟨c156, by kernel_rfl⟩
 rw [if_neg q] at h; clear q
 by_cases q : f = 160
 ·rw [if_pos q] at h; subst q; cases h; exact ⟨c160, by kernel_rfl⟩
 rw [if_neg q] at h; clear q
 cases h
def R2 (f : FuncId) : Bool := decide (f = 39)
theorem R2_ok : Rok Tryz.prog R2 := by
 intro g h
 simp only [R2, decide_eq_true_eq] at h
 subst h; kernel_rfl
abbrev GM2 (k : Int) : GM := ⟨k, fun _ => none⟩
theorem GG2_pure {k : Int} : ∀ g cs, GG (GM2 k) g = some cs → AV.pures cs = true := by
 intro g cs h
 simp only [GG] at h
 repeat' split at h
 all_goals first | (cases h; rfl) | cases h
end Go.Proofs.YtcjlpklgnknpgaaGreatDoor.Pg
