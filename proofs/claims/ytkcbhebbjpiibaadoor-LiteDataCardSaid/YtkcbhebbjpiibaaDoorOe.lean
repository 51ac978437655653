/-
  How the reference makes its rules.
-/
import Derived.Test.YtkcbhebbjpiibaaDoorOc
set_option linter.unusedVariables false
set_option linter.unusedSimpArgs false
set_option linter.defProp false
set_option maxRecDepth 20000
set_option maxHeartbeats 2000000
namespace Go.Proofs.YtkcbhebbjpiibaaDoor.Pg
open Go
theorem sbOe {A : Prop} (h : A := by repeat' (first | exact trivial | refine And.intro ?_ ?_ | exact SubB.v | exact SubB.any | ((first | refine SubB.ptr ?_ | refine SubB.arr ?_ | refine SubB.mp ?_) <;> first | assumption | (unfold pid; omega)) | ((first | refine SubB.pure ?_ | refine SubBs.pure ?_) <;> (simp only [AV.pure, AV.pures, pures_append, jpu, brow_pur, Bool.and_self, Bool.and_true, Bool.true_and]; done)) | refine SubB.fn ?_ ?_ | refine SubB.sl ?_ ?_ | refine SubB.agg ?_ | refine SubB.tup ?_ | rfl)) : A := h
variable {m : Int} {G : Nat → Option (List AV)}
theorem q_p5 {h0 h1 j j' : JH} {t : Option Nat} : pair2 ⟨true, none, h0, h1⟩ ⟨true, t, j, j'⟩ = ((h1.next ≠ h0.next → j.get h0.next = j'.get h0.next) ∧ (h1.tnext ≠ h0.tnext → j.tok h0.tnext = j'.tok h0.tnext)) := by simp [pair2]
theorem ofX_start {b : Bas} {q : Nat} : ofX b q (idm true) (idm true) (idm false) (fun _ => false) [] = .cells 30 b.enc :: .cells 67 (stO b q) :: .cells 4 (brow b.kz fun _ => false) :: (mrows b.kr b.kr (idm true) ++ mrows b.kz b.kz (idm true) ++ mrows b.kz b.kz (idm false)) := by
  unfold ofX; simp
/-! ### What the loops make -/
def stepB (B : Mx) (x : RIn) : Mx := upd2 (upd2 B x.sub.toNat x.sup.toNat true) (x.sub.toNat ^^^ 1) (x.sup.toNat ^^^ 1) true
def rolB (l : List RIn) : Mx := l.foldl stepB (idm true)
theorem rolOK_kr {b : Bas} {r : Int} (h : rolOK b.nms r = true) : ∃ s : Nat, r = s ∧ s < b.kr := by
  unfold rolOK at h
  simp only [Bool.and_eq_true, decide_eq_true_eq] at h
  exact ⟨r.toNat, by omega, by unfold Bas.kr; omega⟩
theorem fold_take {α β : Type} {f : β → α → β} {l : List α} {k : Nat} {x : α} {r : List α} (a : β) (h : l.drop k = x :: r) : (l.take (k + 1)).foldl f a = f ((l.take k).foldl f a) x := by
  have hk : k < l.length := by
    rcases Nat.lt_or_ge k l.length with q | q
    · exact q
    · rw [List.drop_eq_nil_of_le q] at h; cases h
  have e : l.take (k + 1) = l.take k ++ [x] := by
    rw [List.take_succ_eq_append_getElem hk]
    congr 2
    rw [List.drop_eq_getElem_cons hk] at h
    exact (List.cons.inj h).1
  rw [e, List.foldl_append]; rfl
def stepU (c : Nat) (B : Mx) (s : Nat) (U : Mx) (t : Nat) : Mx := upd2 U (c + s) (c + t) (U (c + s) (c + t) || B s t)
def rowU (c n : Nat) (B : Mx) (U : Mx) (s k : Nat) : Mx := (List.range k).foldl (stepU c B s) U
def allU (c n : Nat) (B : Mx) (U : Mx) (k : Nat) : Mx := (List.range k).foldl (fun U s => rowU c n B U s n) U
theorem rowU_succ (c n : Nat) (B U : Mx) (s k : Nat) : rowU c n B U s (k + 1) = stepU c B s (rowU c n B U s k) k := by unfold rowU; rw [List.range_succ, List.foldl_append]; rfl
theorem allU_succ (c n : Nat) (B U : Mx) (k : Nat) : allU c n B U (k + 1) = rowU c n B (allU c n B U k) k n := by unfold allU; rw [List.range_succ, List.foldl_append]; rfl
theorem s_SomeO (b : Bas) (h : b.few2) (r : Nat) (hr : r < 1000) (B U A : Mx) (E : Nat → Bool) (X : List AObj) (j : JH) : JC Tryd.prog G 68 [.ptr (pid j.next 1) 0, I64 r] (ext j (ofX b j.next B U A E X)) (RET (I64 ((b.kc + r : Nat) : Int)) (ext j (ofX b j.next B U A E X))) := s_Some (pid j.next 1) (ruOf b j.next B U A E) r hr _ (ofX_at h)
/-- The number of a basic concept, small as it is. -/
def idN (b : Bas) (c : Con) : Nat := (atN b.kc c).toNat
theorem idN_ok {b : Bas} {c : Con} (h : basC c = true) (hs : shaped b.nms.cs.length b.nms.rs.length c = true) : atN b.kc c = (idN b c : Int) ∧ idN b c < b.kz := by
  have hop := basC_op h
  have hn := shaped_n hs
  obtain ⟨op, n, l⟩ := c
  rw [shaped_mk] at hs
  obtain ⟨⟨-, h0, h1, h2, -⟩, -⟩ := hs
  simp only [Con.op, Con.n] at hop hn
  unfold idN Bas.kz Bas.kr Bas.kc
  rcases hop with rfl | rfl
  · have := h1 rfl
    have e : atN b.kc (Con.mk 0 n l) = n := by simp [atN, Con.op, Con.n]
    rw [e]; exact ⟨by omega, by omega⟩
  · have := h2 (by decide) rfl
    have e : atN b.kc (Con.mk 6 n l) = b.nms.cs.length + n := by simp [atN, Con.op, Con.n]
    rw [e]; exact ⟨by omega, by omega⟩
theorem s_AtO (b : Bas) (h : b.few2) (c : Con) (hc : -1000 ≤ c.n ∧ c.n ≤ 1000) (B U A : Mx) (E : Nat → Bool) (X : List AObj) (j : JH) : JC Tryd.prog G 38 [.ptr (pid j.next 1) 0, .agg c.enc] (ext j (ofX b j.next B U A E X)) (RET (I64 (atN b.kc c)) (ext j (ofX b j.next B U A E X))) := s_At (pid j.next 1) (ruOf b j.next B U A E) c hc _ (ofX_at h)
theorem shaped_small {n : Nms} (hn : namesOK n = true) {c : Con} (h : shaped n.cs.length n.rs.length c = true) : -1000 ≤ c.n ∧ c.n ≤ 1000 := by
  have := shaped_n h; have := names_few hn; omega
def stepI (b : Bas) (s : Mx × Mx) (x : Inc) : Mx × Mx :=
  if x.sup.op = 2 then (s.1, upd2 s.2 (idN b x.sub) (idN b x.sub) true)
  else if x.sup.op = 3 then (s.1, upd2 (upd2 s.2 (idN b x.sub) (idN b (x.sup.args.headD default)) true) (idN b (x.sup.args.headD default)) (idN b x.sub) true)
  else (upd2 s.1 (idN b x.sub) (idN b x.sup) true, s.2)
def incS (b : Bas) (U : Mx) (l : List Inc) : Mx × Mx := l.foldl (stepI b) (U, idm false)
/-- What a right side is. -/
theorem sup_cases {n : Nms} {c : Con} (h2 : shaped n.cs.length n.rs.length c = true) (hs : supC c = true) :
    c.op = 2 ∨ (c.op = 3 ∧ ∃ a, c.args = [a] ∧ basC a = true ∧ shaped n.cs.length n.rs.length a = true) ∨ (c.op ≠ 2 ∧ c.op ≠ 3 ∧ basC c = true ∧ shaped n.cs.length n.rs.length c = true) := by
  by_cases e2 : c.op = 2
  · exact .inl e2
  · by_cases e3 : c.op = 3
    · refine .inr (.inl ⟨e3, ?_⟩)
      obtain ⟨op, k, l⟩ := c
      simp only [Con.op, Con.args] at *
      subst e3
      rw [shaped_mk] at h2
      have hl : l.length = 1 := by have := h2.1.1; simp [arity] at this; omega
      match l, hl with
      | [a], _ =>
        refine ⟨a, rfl, ?_, ?_⟩
        · unfold supC at hs; simpa [Con.op] using hs
        · have := h2.2; simpa [shapedL] using this
    · refine .inr (.inr ⟨e2, e3, ?_, h2⟩)
      obtain ⟨op, k, l⟩ := c
      simp only [Con.op] at *
      cases l with
      | nil => simpa [supC, Con.op, e2] using hs
      | cons a l => simpa [supC, Con.op, e2, e3] using hs
/-- What an inclusion is. -/
theorem incl_cases {b : Bas} (hR : basR b = true) (hf : fitR b = true) {x : Inc} (hx : x ∈ b.incls) : (basC x.sub = true ∧ shaped b.nms.cs.length b.nms.rs.length x.sub = true) ∧
    (x.sup.op = 2 ∨ (x.sup.op = 3 ∧ ∃ a, x.sup.args = [a] ∧ basC a = true ∧ shaped b.nms.cs.length b.nms.rs.length a = true) ∨ (x.sup.op ≠ 2 ∧ x.sup.op ≠ 3 ∧ basC x.sup = true ∧ shaped b.nms.cs.length b.nms.rs.length x.sup = true)) := by
  have hi := basR_incl hR hx
  unfold fitR at hf
  rw [Bool.and_eq_true] at hf
  have hb := List.all_eq_true.1 hf.1 x hx
  rw [Bool.and_eq_true] at hb
  exact ⟨⟨hb.1, conOK_shaped hi.1⟩, sup_cases (conOK_shaped hi.2) hb.2⟩
/-! ### What is empty -/
def vstG (V : (Nat → Bool) → Nat → Bool) (s : (Nat → Bool) × Bool) (i : Nat) : (Nat → Bool) × Bool := if !s.1 i && V s.1 i then (upd s.1 i true, true) else s
def vpsG (V : (Nat → Bool) → Nat → Bool) (E : Nat → Bool) (k : Nat) : (Nat → Bool) × Bool := (List.range k).foldl (vstG V) (E, false)
def vfrG (n : Nat) (E : Nat → Bool) : Nat := (List.range n).countP fun i => !E i
def vdsG (V : (Nat → Bool) → Nat → Bool) (n : Nat) : Nat → (Nat → Bool) → (Nat → Bool)
  | 0, E => E
  | f + 1, E => if (vpsG V E n).2 then vdsG V n f (vpsG V E n).1 else (vpsG V E n).1
def vdG (V : (Nat → Bool) → Nat → Bool) (n : Nat) : Nat → Bool := vdsG V n (n + 1) fun _ => false
theorem vpsG_succ (V : (Nat → Bool) → Nat → Bool) (E : Nat → Bool) (k : Nat) : vpsG V E (k + 1) = vstG V (vpsG V E k) k := by unfold vpsG; rw [List.range_succ, List.foldl_append]; rfl
theorem vfrG_put {n i : Nat} {E : Nat → Bool} (hi : i < n) (h : E i = false) : vfrG n (upd E i true) < vfrG n E := by
  refine countP_lt (fun x hx e => ?_) ⟨i, List.mem_range.2 hi, by rw [h]; rfl, ?_⟩
  · unfold upd at e
    split at e
    · cases e
    · exact e
  · unfold upd; rw [if_pos rfl]; rfl
theorem vpsG_free (V : (Nat → Bool) → Nat → Bool) (n : Nat) (E : Nat → Bool) : ∀ k, k ≤ n → vfrG n (vpsG V E k).1 ≤ vfrG n E ∧ ((vpsG V E k).2 = true → vfrG n (vpsG V E k).1 < vfrG n E)
  | 0, _ => by simp [vpsG]
  | k + 1, h => by
    obtain ⟨h1, h2⟩ := vpsG_free V n E k (by omega)
    rw [vpsG_succ]
    unfold vstG
    split
    · rename_i q
      rw [Bool.and_eq_true] at q
      have := vfrG_put (n := n) (i := k) (E := (vpsG V E k).1) (by omega) (by simpa using q.1)
      exact ⟨by simp only; omega, fun _ => by simp only; omega⟩
    · exact ⟨h1, h2⟩
theorem vfrG_le (n : Nat) (E : Nat → Bool) : vfrG n E ≤ n := by
  have := List.countP_le_length (p := fun i => !E i) (l := List.range n)
  rw [List.length_range] at this; exact this
theorem s_voidO (b : Bas) (h : b.few2) (i : Nat) (hi : i < b.kz) (B U A : Mx) (E : Nat → Bool) (X : List AObj) (j : JH) : JC Tryd.prog G 69 [.ptr (pid j.next 1) 0, I64 i] (ext j (ofX b j.next B U A E X)) (RET (BOO (voidR (ruOf b 0 B U A E) i)) (ext j (ofX b j.next B U A E X))) := s_voidR (pid j.next 1) (ruOf b j.next B U A E) i hi _ (ofX_at h)
/-! ### All of it -/
def OB (b : Bas) : Mx := clK b.kr (rolB b.roles) b.kr
def OI (b : Bas) : Mx × Mx := incS b (allU b.kc b.kr (OB b) (idm true) b.kr) b.incls
def OU (b : Bas) : Mx := clK b.kz (OI b).1 b.kz
def OA (b : Bas) : Mx := (OI b).2
def OV (b : Bas) (E : Nat → Bool) (i : Nat) : Bool := voidR (ruOf b 0 (OB b) (OU b) (OA b) E) i
def OE (b : Bas) : Nat → Bool := vdG (OV b) b.kz
def ofN (b : Bas) (q : Nat) : List AObj := ofX b q (OB b) (OU b) (OA b) (OE b) []
theorem ofX_keep {b : Bas} {j : JH} {B U A : Mx} {E : Nat → Bool} : JDropH (ext j []) (ext j (ofX b j.next B U A E [])) (ext j (ofX b j.next B U A E [])) := by
  refine JDropH.keep fun ob hob => ?_
  obtain ⟨k, hk⟩ := List.getElem?_of_mem hob
  by_cases h1 : k = 1
  · subst h1
    rw [ofX_1] at hk
    cases hk
    rw [ofX_len]
    exact ⟨rfl, ⟨SubB.v, SubB.v, SubB.sl rfl (arrs_sub fun i hi => by unfold pid Bas.kl; omega), SubB.sl rfl (arrs_sub fun i hi => by unfold pid Bas.kl; omega), SubB.sl rfl (arrs_sub fun i hi => by unfold pid Bas.kl; omega), SubB.arr (by unfold pid Bas.kl; omega), True.intro⟩⟩
  · exact ofX_mem hk h1
def ir27 : IFn := ⟨242, [⟨2, none⟩], (.seq (.reg [oA 1 (.box 30 (.r 0)), oA 2 (.mov (.k (.v (.pointer none))))]) (.seq (.reg [oA 17 (.fadr 0 (.r 1)), oA 18 (.fadr 0 (.r 17)), oL 19 18 none, oT 20 19 (.lenl (.r 19)), oA 21 (.fadr 0 (.r 1)), oA 22 (.fadr 1 (.r 21)), oL 23 22 none, oT 24 23 (.lenl (.r 23)), oA 25 (.bin .mul (kI 2) (.r 24)), oA 26 (.build [.v (.int .i64 0), .v (.int .i64 0), .sl .nil 0 [], .sl .nil 0 [], .sl .nil 0 [], .sl .nil 0 []] [(0, (1, .r 20)), (1, (1, .r 25))]), oA 27 (.box 67 (.r 26)), oA 3 (kM 27)]) (.seq (.draw [oA 28 (kM 3), oA 29 (.nchk (.r 28)), oA 30 (.fadr 0 (.r 29)), oL 31 30 none, oA 32 (kM 3), oA 33 (.nchk (.r 32)), oA 34 (.fadr 1 (.r 33)), oL 35 34 none, oA 36 (.bin .add (.r 31) (.r 35)), oA 4 (kM 36)] []) (.seq (.draw [oA 37 (kM 3), oA 38 (kM 3), oA 39 (kM 3), oA 40 (kM 3), oA 41 (kM 3), oA 42 (.nchk (.r 41)), oA 43 (.fadr 1 (.r 42)), oL 44 43 none, oA 46 (kM 4), oA 48 (kM 4), oA 50 (kM 4), oA 51 (.mks 4 1 1 [.v (.bool false)] (.r 50) (.r 50)), oA 45 (.call 66 [.r 44, .k (.v (.bool true))]), oA 47 (.call 66 [.r 46, .k (.v (.bool true))]), oA 49 (.call 66 [.r 48, .k (.v (.bool false))]), oA 52 (.nchk (.r 37)), oA 53 (.fadr 2 (.r 52)), oN (.store 1 (.r 53) (.r 45)), oA 54 (.nchk (.r 38)), oA 55 (.fadr 3 (.r 54)), oN (.store 1 (.r 55) (.r 47)), oA 56 (.nchk (.r 39)), oA 57 (.fadr 4 (.r 56)), oN (.store 1 (.r 57) (.r 49)), oA 58 (.nchk (.r 40)), oA 59 (.fadr 5 (.r 58)), oN (.store 1 (.r 59) (.r 51))] [(11, 12), (11, 13), (11, 14), (11, 17), (11, 20), (11, 23)]) (.seq (.seq (.reg [oA 60 (.fadr 4 (.r 1)), oL 61 60 none, oT 62 61 (.lenl (.r 61)), oA 63 (.mov (kI 0))]) (.block 0 (.loop (.seq (.reg [oA 64 (.bin .lss (.r 63) (.r 62))]) (.seq (.cond (.r 64) .skip (.exit 0)) (.seq (.block 1 (.seq (.reg [oA 65 (.iasl 2 (.r 61) (.r 63)), oL 66 65 (some 2), oA 6 (.alloc 82 [.v (.int .i64 0), .v (.int .i64 0)]), oN (.store 2 (.r 6) (.r 66))]) (.draw [oA 67 (kM 3), oA 68 (.nchk (.r 67)), oA 69 (.fadr 2 (.r 68)), oL 70 69 none, oA 71 (.fadr 0 (.r 6)), oL 72 71 none, oA 73 (.iasl 1 (.r 70) (.r 72)), oL 74 73 none, oA 75 (.fadr 1 (.r 6)), oL 76 75 none, oA 77 (kM 3), oA 78 (.nchk (.r 77)), oA 79 (.fadr 2 (.r 78)), oL 80 79 none, oA 81 (.fadr 0 (.r 6)), oL 82 81 none, oA 83 (.bin .xor (.r 82) (kI 1)), oA 84 (.iasl 1 (.r 80) (.r 83)), oL 85 84 none, oA 86 (.fadr 1 (.r 6)), oL 87 86 none, oA 88 (.bin .xor (.r 87) (kI 1)), oA 89 (.iasl 1 (.r 74) (.r 76)), oN (.store 1 (.r 89) (kB true)), oA 90 (.iasl 1 (.r 85) (.r 88)), oN (.store 1 (.r 90) (kB true))] [(20, 23)]))) (.reg [oA 91 (.bin .add (.r 63) (kI 1)), oA 63 (kM 91)]))))))) (.seq (.reg [oA 92 (kM 3), oA 93 (.nchk (.r 92)), oA 94 (.fadr 2 (.r 93)), oL 95 94 none, oT 96 95 (.call 67 [.r 95])]) (.seq (.seq (.reg [oA 97 (kM 3), oA 98 (.nchk (.r 97)), oA 99 (.fadr 2 (.r 98)), oL 100 99 none, oT 101 100 (.lenl (.r 100)), oA 102 (.mov (kI 0))]) (.block 2 (.loop (.seq (.reg [oA 103 (.bin .lss (.r 102) (.r 101))]) (.seq (.cond (.r 103) .skip (.exit 2)) (.seq (.block 3 (.seq (.reg [oA 104 (kM 102), oA 105 (.iasl 1 (.r 100) (.r 102)), oL 106 105 none, oA 7 (kM 104), oA 8 (kM 106)]) (.seq (.reg [oA 107 (kM 8), oT 108 107 (.lenl (.r 107)), oA 109 (.mov (kI 0))]) (.block 4 (.loop (.seq (.reg [oA 110 (.bin .lss (.r 109) (.r 108))]) (.seq (.cond (.r 110) .skip (.exit 4)) (.seq (.block 5 (.seq (.reg [oA 111 (kM 109), oA 112 (.iasl 1 (.r 107) (.r 109)), oL 113 112 none, oA 9 (kM 111), oA 10 (kM 113)]) (.draw [oA 114 (kM 3), oA 115 (.nchk (.r 114)), oA 116 (.fadr 3 (.r 115)), oL 117 116 none, oA 118 (kM 3), oA 119 (kM 7), oA 120 (.call 68 [.r 118, .r 119]), oA 121 (.iasl 1 (.r 117) (.r 120)), oL 122 121 none, oA 123 (kM 3), oA 124 (kM 9), oA 125 (.call 68 [.r 123, .r 124]), oA 126 (kM 3), oA 127 (.nchk (.r 126)), oA 128 (.fadr 3 (.r 127)), oL 129 128 none, oA 130 (kM 3), oA 131 (kM 7), oA 132 (.call 68 [.r 130, .r 131]), oA 133 (.iasl 1 (.r 129) (.r 132)), oL 134 133 none, oA 135 (kM 3), oA 136 (kM 9), oA 137 (.call 68 [.r 135, .r 136]), oA 138 (.iasl 1 (.r 134) (.r 137)), oL 139 138 none, oA 140 (kM 139), ⟨(some 141), (some ((140, false))), none, (kM 10)⟩, oA 142 (.pick (.r 140) (kB true) (.r 141)), oA 143 (.iasl 1 (.r 122) (.r 125)), oN (.store 1 (.r 143) (.r 142))] [(3, 6), (3, 11), (3, 18), (3, 23), (8, 11), (8, 18), (8, 23), (15, 6), (15, 11), (15, 18), (15, 23), (20, 23)]))) (.reg [oA 144 (.bin .add (.r 109) (kI 1)), oA 109 (kM 144)]))))))))) (.reg [oA 145 (.bin .add (.r 102) (kI 1)), oA 102 (kM 145)]))))))) (.seq (.seq (.reg [oA 146 (.fadr 3 (.r 1)), oL 147 146 none, oT 148 147 (.lenl (.r 147)), oA 149 (.mov (kI 0))]) (.block 6 (.loop (.seq (.reg [oA 150 (.bin .lss (.r 149) (.r 148))]) (.seq (.cond (.r 150) .skip (.exit 6)) (.seq (.block 7 (.seq (.reg [oA 151 (.iasl 6 (.r 147) (.r 149)), oL 152 151 (some 6), oA 12 (.alloc 89 [.v (.int .i64 0), .v (.int .i64 0), .sl .nil 0 [], .v (.int .i64 0), .v (.int .i64 0), .sl .nil 0 []]), oN (.store 6 (.r 12) (.r 152))]) (.seq (.reg [oA 153 (kM 3), oA 154 (.fadr 0 (.r 12)), oL 155 154 (some 3), oA 156 (.call 38 [.r 153, .r 155]), oA 13 (kM 156)]) (.seq (.reg [oA 157 (.fadr 3 (.r 12)), oA 158 (.fadr 0 (.r 157)), oL 159 158 none]) (.block 8 (.seq (.reg [oA 173 (.bin .eql (.r 159) (kI 2)), oA 172 (kM 173)]) (.cond (.r 172) (.reg [oA 174 (kM 3), oA 175 (.nchk (.r 174)), oA 176 (.fadr 4 (.r 175)), oL 177 176 none, oA 178 (kM 13), oA 179 (.iasl 1 (.r 177) (.r 178)), oL 180 179 none, oA 181 (kM 13), oA 182 (.iasl 1 (.r 180) (.r 181)), oN (.store 1 (.r 182) (kB true))]) (.seq (.reg [oA 184 (.bin .eql (.r 159) (kI 3)), oA 183 (kM 184)]) (.cond (.r 183) (.seq (.reg [oA 185 (kM 3), oA 186 (.fadr 3 (.r 12)), oA 187 (.fadr 2 (.r 186)), oL 188 187 none, oA 189 (.iasl 3 (.r 188) (kI 0)), oL 190 189 (some 3), oA 191 (.call 38 [.r 185, .r 190]), oA 14 (kM 191)]) (.draw [oA 192 (kM 3), oA 193 (.nchk (.r 192)), oA 194 (.fadr 4 (.r 193)), oL 195 194 none, oA 196 (kM 13), oA 197 (.iasl 1 (.r 195) (.r 196)), oL 198 197 none, oA 199 (kM 14), oA 200 (kM 3), oA 201 (.nchk (.r 200)), oA 202 (.fadr 4 (.r 201)), oL 203 202 none, oA 204 (kM 14), oA 205 (.iasl 1 (.r 203) (.r 204)), oL 206 205 none, oA 207 (kM 13), oA 208 (.iasl 1 (.r 198) (.r 199)), oN (.store 1 (.r 208) (kB true)), oA 209 (.iasl 1 (.r 206) (.r 207)), oN (.store 1 (.r 209) (kB true))] [])) (.draw [oA 160 (kM 3), oA 161 (.nchk (.r 160)), oA 162 (.fadr 3 (.r 161)), oL 163 162 none, oA 164 (kM 13), oA 165 (.iasl 1 (.r 163) (.r 164)), oL 166 165 none, oA 167 (kM 3), oA 168 (.fadr 3 (.r 12)), oL 169 168 (some 3), oA 170 (.call 38 [.r 167, .r 169]), oA 171 (.iasl 1 (.r 166) (.r 170)), oN (.store 1 (.r 171) (kB true))] [(3, 10), (6, 10)])))))))))) (.reg [oA 210 (.bin .add (.r 149) (kI 1)), oA 149 (kM 210)]))))))) (.seq (.reg [oA 211 (kM 3), oA 212 (.nchk (.r 211)), oA 213 (.fadr 3 (.r 212)), oL 214 213 none, oT 215 214 (.call 67 [.r 214])]) (.seq (.seq (.reg [oA 15 (.mov (kB true))]) (.block 9 (.loop (.seq (.seq (.reg [oA 216 (kM 15)]) (.cond (.r 216) .skip (.exit 9))) (.block 10 (.seq (.reg [oA 15 (.mov (kB false))]) (.seq (.reg [oA 217 (kM 4), oA 218 (.mov (kI 0))]) (.block 11 (.loop (.seq (.reg [oA 219 (.bin .lss (.r 218) (.r 217))]) (.seq (.cond (.r 219) .skip (.exit 11)) (.seq (.block 12 (.seq (.reg [oA 220 (kM 218), oA 16 (kM 220)]) (.seq (.reg [oA 221 (kM 3), oA 222 (.nchk (.r 221)), oA 223 (.fadr 5 (.r 222)), oL 224 223 none, oA 225 (kM 16), oA 226 (.iasl 1 (.r 224) (.r 225)), oL 227 226 none, oA 228 (.not (.r 227)), oA 229 (kM 228), ⟨(some 230), (some ((229, true))), none, (kM 3)⟩, ⟨(some 231), (some ((229, true))), none, (kM 16)⟩, ⟨(some 232), (some ((229, true))), none, (.call 69 [.r 230, .r 231])⟩, oA 233 (.pick (.r 229) (.r 232) (kB false))]) (.cond (.r 233) (.reg [oA 234 (kM 3), oA 235 (.nchk (.r 234)), oA 236 (.fadr 5 (.r 235)), oL 237 236 none, oA 238 (kM 16), oA 239 (.iasl 1 (.r 237) (.r 238)), oN (.store 1 (.r 239) (kB true)), oA 15 (.mov (kB true))]) .skip)))) (.reg [oA 240 (.bin .add (.r 218) (kI 1)), oA 218 (kM 240)]))))))))))))) (.seq (.reg [oA 241 (kM 3), oA 2 (kM 241)]) .ret)))))))))))⟩
theorem c27 : cfunc Tryd.prog 27 = some ir27 := by kernel_rfl
theorem k27 : okIR (max 1 ir27.n) ir27.ir = true := by decide +kernel
theorem s_Of (b : Bas) (hb : b.ok) (hR : basR b = true) (hf : fitR b = true) (j : JH) : JC Tryd.prog G 27 [.agg b.enc] j (RET (.ptr (pid j.next 1) 0) (ext j (ofN b j.next))) := by
  have h2 := basR_few2 hR
  have h2c := h2.c
  have h2r := h2.r
  have h2c' : b.nms.cs.length ≤ 16 := h2c
  have h2z : b.kz ≤ 28 := by unfold Bas.kz; omega
  have e3 : b.kr + 1 + 1 + 1 = 3 + b.kr := by omega
  have h1l : 1 < b.kr + b.kz + b.kz + 1 + 1 + 1 := by omega
  have kl1 : 1 < b.kl + 1 := by unfold Bas.kl; omega
  have e4 : b.kr + b.kz + 1 + 1 + 1 = 3 + b.kr + b.kz := by omega
  have er : (2 : Int) * (b.nms.rs.length : Int) = (b.kr : Int) := by unfold Bas.kr; omega
  refine JC.run hmix c27 (by exact k27) ?_
  (try simp only[↓jr,jw,seval,jq2,q_p5,q_e5,ext_next,ext_tnext,set_next,set_tnext,Nat.le_refl,mrows_len,brow_len,brow_new,ext_ext,e3,e4,h1l,implies_true,ir27])
  refine wr.in (by unfold R64; omega) ?_
  rw [er]
  (try simp only[↓jr,jw,seval,jq2,q_p5,q_e5,ext_next,ext_tnext,set_next,set_tnext,Nat.le_refl,mrows_len,brow_len,brow_new,ext_ext,e3,e4,h1l,implies_true])
  refine wc.intro (by unfold R64; omega) ?_
  (try simp only[↓jr,jw,seval,jq2,q_p5,q_e5,ext_next,ext_tnext,set_next,set_tnext,Nat.le_refl,mrows_len,brow_len,brow_new,ext_ext,e3,e4,h1l,implies_true])
  refine JDRAW.oc (by (try simp only[↓jr,jw,seval,jq2,q_p5,q_e5,ext_next,ext_tnext,set_next,set_tnext,Nat.le_refl,mrows_len,brow_len,brow_new,ext_ext,e3,e4,h1l,implies_true,jq]) <;> (repeat' (first | exact trivial | refine And.intro ?_ ?_ | assumption | (unfold pid; omega) | (unfold pid Bas.kl; omega) | (unfold Bas.kl; omega)))) ?_; (try simp only[↓jr,jw,seval,jq2,q_p5,q_e5,ext_next,ext_tnext,set_next,set_tnext,Nat.le_refl,mrows_len,brow_len,brow_new,ext_ext,e3,e4,h1l,implies_true])
  have ez : (b.nms.cs.length : Int) + (b.kr : Int) = (b.kz : Int) := by unfold Bas.kz Bas.kc; omega
  rw [ez]
  (try simp only[↓jr,jw,seval,jq2,q_p5,q_e5,ext_next,ext_tnext,set_next,set_tnext,Nat.le_refl,mrows_len,brow_len,brow_new,ext_ext,e3,e4,h1l,implies_true])
  refine JMKS.same (by omega) (by omega) ?_
  (try simp only[↓jr,jw,seval,jq2,q_p5,q_e5,ext_next,ext_tnext,set_next,set_tnext,Nat.le_refl,mrows_len,brow_len,brow_new,ext_ext,e3,e4,h1l,implies_true,ext_push])
  refine JDC.use (s_matrix b.kr true (by omega) _) ?_
  (try simp only[↓jr,jw,seval,jq2,q_p5,q_e5,ext_next,ext_tnext,set_next,set_tnext,Nat.le_refl,mrows_len,brow_len,brow_new,ext_ext,e3,e4,h1l,implies_true])
  refine JDC.use (s_matrix b.kz true (by omega) _) ?_
  (try simp only[↓jr,jw,seval,jq2,q_p5,q_e5,ext_next,ext_tnext,set_next,set_tnext,Nat.le_refl,mrows_len,brow_len,brow_new,ext_ext,e3,e4,h1l,implies_true])
  refine JDC.use (s_matrix b.kz false (by omega) _) ?_
  (try simp only[↓jr,jw,seval,jq2,q_p5,q_e5,ext_next,ext_tnext,set_next,set_tnext,Nat.le_refl,mrows_len,brow_len,brow_new,ext_ext,e3,e4,h1l,implies_true])
  refine JDRAW.oc (by (try simp only[↓jr,jw,seval,jq2,q_p5,q_e5,ext_next,ext_tnext,set_next,set_tnext,Nat.le_refl,mrows_len,brow_len,brow_new,ext_ext,e3,e4,h1l,implies_true,jq]) <;> (repeat' (first | exact trivial | refine And.intro ?_ ?_ | assumption | (unfold pid; omega) | (unfold pid Bas.kl; omega) | (unfold Bas.kl; omega)))) ?_; (try simp only[↓jr,jw,seval,jq2,q_p5,q_e5,ext_next,ext_tnext,set_next,set_tnext,Nat.le_refl,mrows_len,brow_len,brow_new,ext_ext,e3,e4,h1l,implies_true])
  refine JLOOP.of (σ := Nat) (fun k => k ≤ b.roles.length) (fun k => b.roles.length - k)
    (fun k => [(63, I64 k), (62, I64 b.roles.length), (61, .sl .none b.roles.length (encs RIn.enc b.roles)), (1, .ptr (pid j.next 0) 0), (3, .ptr (pid j.next 1) 0), (4, I64 b.kz)])
    (fun k => ext j (ofX b j.next (rolB (b.roles.take k)) (idm true) (idm false) (fun _ => false) [])) 0 (Nat.zero_le _) ?_ (by rw [List.take_zero, show rolB [] = idm true from rfl, ofX_start]; exact JDropH.refl _) ?_
  · (try simp only[↓jr,jw,seval,jq2,q_p5,q_e5,ext_next,ext_tnext,set_next,set_tnext,Nat.le_refl,mrows_len,brow_len,brow_new,ext_ext,e3,e4,h1l,implies_true,DL,ofX_len])
    exact ⟨SubB.v, SubB.v, SubB.sl rfl (SubBs.pure (encs_pur RIn.pur _)), SubB.ptr (by unfold pid Bas.kl; omega), SubB.ptr (by unfold pid Bas.kl; omega), SubB.v⟩
  have hroles := basR_roles hR
  have l2 := hb.lr
  rintro k hk
  (try simp only[↓jr,jw,seval,jq2,q_p5,q_e5,ext_next,ext_tnext,set_next,set_tnext,Nat.le_refl,brow_len,brow_ld,arrs_len,arrs_ld,ofX_len,ofX_push,ofX_0,ofX_1,ofX_2,ofX_s2,ofX_new,ofX_snew,oxB,oxU,oxA,oxsB,oxsU,oxsA,ext_push,stO,Nat.lt_add_one])
  refine wq.intro (fun g1 => ?_) (fun g1 => ?_)
  · have hlt : k < (b.roles).length := by omega
    obtain ⟨x, r, hd⟩ : ∃ c_ l_, List.drop k (b.roles) = c_ :: l_ := ⟨_, _, List.drop_eq_getElem_cons hlt⟩
    have hd1 : List.drop (k + 1) (b.roles) = r := by rw [← List.drop_drop, hd]; rfl
    have hmem : x ∈ b.roles := List.mem_of_mem_drop (hd ▸ List.mem_cons_self)
    (try simp only[↓jr,jw,seval,jq2,q_p5,q_e5,ext_next,ext_tnext,set_next,set_tnext,Nat.le_refl,brow_len,brow_ld,arrs_len,arrs_ld,ofX_len,ofX_push,ofX_0,ofX_1,ofX_2,ofX_s2,ofX_new,ofX_snew,oxB,oxU,oxA,oxsB,oxsU,oxsA,ext_push,stO,Nat.lt_add_one,hd])
    refine wc.intro (by omega) ?_
    have hrol := hroles x hmem
    obtain ⟨s, e1, ls⟩ := rolOK_kr hrol.1
    obtain ⟨p, e2, lp⟩ := rolOK_kr hrol.2
    have ls1 := xor_even h2r h2.e ls
    have lp1 := xor_even h2r h2.e lp
    have xs := xor_r (s := s) (by omega)
    have xp := xor_r (s := p) (by omega)
    have hft : rolB (b.roles.take (k + 1)) = stepB (rolB (b.roles.take k)) x := fold_take (idm true) hd
    have hstep : ∀ B, stepB B x = upd2 (upd2 B s p true) (s ^^^ 1) (p ^^^ 1) true := fun B => by unfold stepB; rw [e1, e2]; rfl
    generalize hBB : rolB (b.roles.take k) = B at hft
    (try simp only[↓jr,jw,seval,jq2,q_p5,q_e5,ext_next,ext_tnext,set_next,set_tnext,Nat.le_refl,brow_len,brow_ld,arrs_len,arrs_ld,ofX_len,ofX_push,ofX_0,ofX_1,ofX_2,ofX_s2,ofX_new,ofX_snew,oxB,oxU,oxA,oxsB,oxsU,oxsA,ext_push,stO,Nat.lt_add_one,kl1,e1,e2,ls,lp,ls1,lp1,xs,xp,hd])
    repeat' (first | (refine wc.bput (by omega) (by omega) ?_; (try simp only[↓jr,jw,seval,jq2,q_p5,q_e5,ext_next,ext_tnext,set_next,set_tnext,Nat.le_refl,brow_len,brow_ld,arrs_len,arrs_ld,ofX_len,ofX_push,ofX_0,ofX_1,ofX_2,ofX_s2,ofX_new,ofX_snew,oxB,oxU,oxA,oxsB,oxsU,oxsA,ext_push,stO,Nat.lt_add_one,kl1,e1,e2,ls,lp,ls1,lp1,xs,xp])) | (refine wc.intro (by omega) ?_; (try simp only[↓jr,jw,seval,jq2,q_p5,q_e5,ext_next,ext_tnext,set_next,set_tnext,Nat.le_refl,brow_len,brow_ld,arrs_len,arrs_ld,ofX_len,ofX_push,ofX_0,ofX_1,ofX_2,ofX_s2,ofX_new,ofX_snew,oxB,oxU,oxA,oxsB,oxsU,oxsA,ext_push,stO,Nat.lt_add_one,kl1,e1,e2,ls,lp,ls1,lp1,xs,xp])) | (refine JDRAW.oc (by (try simp only[↓jr,jw,seval,jq2,q_p5,q_e5,ext_next,ext_tnext,set_next,set_tnext,Nat.le_refl,brow_len,brow_ld,arrs_len,arrs_ld,ofX_len,ofX_push,ofX_0,ofX_1,ofX_2,ofX_s2,ofX_new,ofX_snew,oxB,oxU,oxA,oxsB,oxsU,oxsA,ext_push,stO,Nat.lt_add_one,kl1,e1,e2,ls,lp,ls1,lp1,xs,xp,jq]) <;> (repeat' (first | exact trivial | refine And.intro ?_ ?_ | assumption | (unfold pid; omega) | (unfold pid Bas.kl; omega) | (unfold Bas.kl; omega)))) ?_; (try simp only[↓jr,jw,seval,jq2,q_p5,q_e5,ext_next,ext_tnext,set_next,set_tnext,Nat.le_refl,brow_len,brow_ld,arrs_len,arrs_ld,ofX_len,ofX_push,ofX_0,ofX_1,ofX_2,ofX_s2,ofX_new,ofX_snew,oxB,oxU,oxA,oxsB,oxsU,oxsA,ext_push,stO,Nat.lt_add_one,kl1,e1,e2,ls,lp,ls1,lp1,xs,xp])))
    refine wc.intro (by unfold R64; omega) ?_
    (try simp only[↓jr,jw,seval,jq2,q_p5,q_e5,ext_next,ext_tnext,set_next,set_tnext,Nat.le_refl,brow_len,brow_ld,arrs_len,arrs_ld,ofX_len,ofX_push,ofX_0,ofX_1,ofX_2,ofX_s2,ofX_new,ofX_snew,oxB,oxU,oxA,oxsB,oxsU,oxsA,ext_push,stO,Nat.lt_add_one,kl1,e1,e2,ls,lp,ls1,lp1,xs,xp])
    refine JNEXT.of (k + 1) (by omega) (by omega) ?_ (by rw [hft, hstep]; exact ofX_drop)
    (try simp only[↓jr,jw,seval,jq2,q_p5,q_e5,ext_next,ext_tnext,set_next,set_tnext,Nat.le_refl,brow_len,brow_ld,arrs_len,arrs_ld,ofX_len,ofX_push,ofX_0,ofX_1,ofX_2,ofX_s2,ofX_new,ofX_snew,oxB,oxU,oxA,oxsB,oxsU,oxsA,ext_push,stO,Nat.lt_add_one,kl1,e1,e2,ls,lp,ls1,lp1,xs,xp,DL])
    exact ⟨SubB.eqi (by omega), SubB.v, SubB.sl rfl (SubBs.pure (encs_pur RIn.pur _)), SubB.ptr (by unfold pid Bas.kl; omega), SubB.ptr (by unfold pid Bas.kl; omega), SubB.v⟩
  (try simp only[↓jr,jw,seval,jq2,q_p5,q_e5,ext_next,ext_tnext,set_next,set_tnext,Nat.le_refl,brow_len,brow_ld,arrs_len,arrs_ld,ofX_len,ofX_push,ofX_0,ofX_1,ofX_2,ofX_s2,ofX_new,ofX_snew,oxB,oxU,oxA,oxsB,oxsU,oxsA,ext_push,stO,Nat.lt_add_one,kl1])
  have ek : k = b.roles.length := by omega
  subst ek
  rw [List.take_length]
  generalize hB0 : rolB b.roles = B0
  refine JCs.ret (s_closedB b h2 B0 (idm true) (idm false) (fun _ => false) [] j) ?_
  (try simp only[↓jr,jw,seval,jq2,q_p5,q_e5,ext_next,ext_tnext,set_next,set_tnext,Nat.le_refl,brow_len,brow_ld,arrs_len,arrs_ld,ofX_len,ofX_push,ofX_0,ofX_1,ofX_2,ofX_s2,ofX_new,ofX_snew,oxB,oxU,oxA,oxsB,oxsU,oxsA,ext_push,stO,Nat.lt_add_one,kl1])
  generalize hB1 : clK b.kr B0 b.kr = B1
  refine JLOOP.of (σ := Nat) (fun k => k ≤ b.kr) (fun k => b.kr - k)
    (fun k => [(102, I64 k), (101, I64 b.kr), (100, .sl .none b.kr (arrs (pid j.next 3) b.kr b.kr)), (1, .ptr (pid j.next 0) 0), (3, .ptr (pid j.next 1) 0), (4, I64 b.kz)])
    (fun k => ext j (ofX b j.next B1 (allU b.kc b.kr B1 (idm true) k) (idm false) (fun _ => false) [])) 0 (Nat.zero_le _) ?_ (JDropH.refl _) ?_
  · (try simp only[↓jr,jw,seval,jq2,q_p5,q_e5,ext_next,ext_tnext,set_next,set_tnext,Nat.le_refl,brow_len,brow_ld,arrs_len,arrs_ld,ofX_len,ofX_push,ofX_0,ofX_1,ofX_2,ofX_s2,ofX_new,ofX_snew,oxB,oxU,oxA,oxsB,oxsU,oxsA,ext_push,stO,Nat.lt_add_one,kl1,DL])
    exact ⟨SubB.v, SubB.v, SubB.sl rfl (arrs_sub fun i hi => by unfold pid Bas.kl; omega), SubB.ptr (by unfold pid Bas.kl; omega), SubB.ptr (by unfold pid Bas.kl; omega), SubB.v⟩
  clear hk g1
  rintro s hs
  (try simp only[↓jr,jw,seval,jq2,q_p5,q_e5,ext_next,ext_tnext,set_next,set_tnext,Nat.le_refl,brow_len,brow_ld,arrs_len,arrs_ld,ofX_len,ofX_push,ofX_0,ofX_1,ofX_2,ofX_s2,ofX_new,ofX_snew,oxB,oxU,oxA,oxsB,oxsU,oxsA,ext_push,stO,Nat.lt_add_one,kl1])
  refine wq.intro (fun g1 => ?_) (fun g1 => ?_)
  · have ls : s < b.kr := by omega
    (try simp only[↓jr,jw,seval,jq2,q_p5,q_e5,ext_next,ext_tnext,set_next,set_tnext,Nat.le_refl,brow_len,brow_ld,arrs_len,arrs_ld,ofX_len,ofX_push,ofX_0,ofX_1,ofX_2,ofX_s2,ofX_new,ofX_snew,oxB,oxU,oxA,oxsB,oxsU,oxsA,ext_push,stO,Nat.lt_add_one,kl1,ls])
    repeat' (first | (refine wc.intro (by omega) ?_; (try simp only[↓jr,jw,seval,jq2,q_p5,q_e5,ext_next,ext_tnext,set_next,set_tnext,Nat.le_refl,brow_len,brow_ld,arrs_len,arrs_ld,ofX_len,ofX_push,ofX_0,ofX_1,ofX_2,ofX_s2,ofX_new,ofX_snew,oxB,oxU,oxA,oxsB,oxsU,oxsA,ext_push,stO,Nat.lt_add_one,kl1,ls])))
    generalize hU0 : allU b.kc b.kr B1 (idm true) s = U0
    refine JLOOP.of (σ := Nat) (fun t => t ≤ b.kr) (fun t => b.kr - t)
      (fun t => [(109, I64 t), (108, I64 b.kr), (107, .arr (pid (pid j.next 3) s) 0 b.kr), (7, I64 s), (102, I64 s), (101, I64 b.kr), (100, .sl .none b.kr (arrs (pid j.next 3) b.kr b.kr)), (1, .ptr (pid j.next 0) 0), (3, .ptr (pid j.next 1) 0), (4, I64 b.kz)])
      (fun t => ext j (ofX b j.next B1 (rowU b.kc b.kr B1 U0 s t) (idm false) (fun _ => false) [])) 0 (Nat.zero_le _) ?_ (JDropH.refl _) ?_
    · (try simp only[↓jr,jw,seval,jq2,q_p5,q_e5,ext_next,ext_tnext,set_next,set_tnext,Nat.le_refl,brow_len,brow_ld,arrs_len,arrs_ld,ofX_len,ofX_push,ofX_0,ofX_1,ofX_2,ofX_s2,ofX_new,ofX_snew,oxB,oxU,oxA,oxsB,oxsU,oxsA,ext_push,stO,Nat.lt_add_one,kl1,DL])
      exact ⟨SubB.v, SubB.v, SubB.arr (by unfold pid Bas.kl; omega), SubB.v, SubB.v, SubB.v, SubB.sl rfl (arrs_sub fun i hi => by unfold pid Bas.kl; omega), SubB.ptr (by unfold pid Bas.kl; omega), SubB.ptr (by unfold pid Bas.kl; omega), SubB.v⟩
    rintro t ht
    (try simp only[↓jr,jw,seval,jq2,q_p5,q_e5,ext_next,ext_tnext,set_next,set_tnext,Nat.le_refl,brow_len,brow_ld,arrs_len,arrs_ld,ofX_len,ofX_push,ofX_0,ofX_1,ofX_2,ofX_s2,ofX_new,ofX_snew,oxB,oxU,oxA,oxsB,oxsU,oxsA,ext_push,stO,Nat.lt_add_one,kl1])
    refine wq.intro (fun g2 => ?_) (fun g2 => ?_)
    · have lt : t < b.kr := by omega
      generalize hU1 : rowU b.kc b.kr B1 U0 s t = U1
      have lcs : b.kc + s < b.kz := by unfold Bas.kz; omega
      have lct : b.kc + t < b.kz := by unfold Bas.kz; omega
      (try simp only[↓jr,jw,seval,jq2,q_p5,q_e5,ext_next,ext_tnext,set_next,set_tnext,Nat.le_refl,brow_len,brow_ld,arrs_len,arrs_ld,ofX_len,ofX_push,ofX_0,ofX_1,ofX_2,ofX_s2,ofX_new,ofX_snew,oxB,oxU,oxA,oxsB,oxsU,oxsA,ext_push,stO,Nat.lt_add_one,kl1,ls,lt,lcs,lct])
      repeat' (first | (refine wc.bput (by omega) (by omega) ?_; (try simp only[↓jr,jw,seval,jq2,q_p5,q_e5,ext_next,ext_tnext,set_next,set_tnext,Nat.le_refl,brow_len,brow_ld,arrs_len,arrs_ld,ofX_len,ofX_push,ofX_0,ofX_1,ofX_2,ofX_s2,ofX_new,ofX_snew,oxB,oxU,oxA,oxsB,oxsU,oxsA,ext_push,stO,Nat.lt_add_one,kl1,ls,lt,lcs,lct])) | (refine wc.intro (by omega) ?_; (try simp only[↓jr,jw,seval,jq2,q_p5,q_e5,ext_next,ext_tnext,set_next,set_tnext,Nat.le_refl,brow_len,brow_ld,arrs_len,arrs_ld,ofX_len,ofX_push,ofX_0,ofX_1,ofX_2,ofX_s2,ofX_new,ofX_snew,oxB,oxU,oxA,oxsB,oxsU,oxsA,ext_push,stO,Nat.lt_add_one,kl1,ls,lt,lcs,lct])) | (refine JDC.use (s_SomeO b h2 s (by omega) _ _ _ _ _ _) ?_; (try simp only[↓jr,jw,seval,jq2,q_p5,q_e5,ext_next,ext_tnext,set_next,set_tnext,Nat.le_refl,brow_len,brow_ld,arrs_len,arrs_ld,ofX_len,ofX_push,ofX_0,ofX_1,ofX_2,ofX_s2,ofX_new,ofX_snew,oxB,oxU,oxA,oxsB,oxsU,oxsA,ext_push,stO,Nat.lt_add_one,kl1,ls,lt,lcs,lct])) | (refine JDC.use (s_SomeO b h2 t (by omega) _ _ _ _ _ _) ?_; (try simp only[↓jr,jw,seval,jq2,q_p5,q_e5,ext_next,ext_tnext,set_next,set_tnext,Nat.le_refl,brow_len,brow_ld,arrs_len,arrs_ld,ofX_len,ofX_push,ofX_0,ofX_1,ofX_2,ofX_s2,ofX_new,ofX_snew,oxB,oxU,oxA,oxsB,oxsU,oxsA,ext_push,stO,Nat.lt_add_one,kl1,ls,lt,lcs,lct])) | (refine ww.intro (fun _ => ?_) (fun _ => ?_) <;> (try simp only[↓jr,jw,seval,jq2,q_p5,q_e5,ext_next,ext_tnext,set_next,set_tnext,Nat.le_refl,brow_len,brow_ld,arrs_len,arrs_ld,ofX_len,ofX_push,ofX_0,ofX_1,ofX_2,ofX_s2,ofX_new,ofX_snew,oxB,oxU,oxA,oxsB,oxsU,oxsA,ext_push,stO,Nat.lt_add_one,kl1,ls,lt,lcs,lct])) | (refine JDRAW.oc (by (try simp only[↓jr,jw,seval,jq2,q_p5,q_e5,ext_next,ext_tnext,set_next,set_tnext,Nat.le_refl,brow_len,brow_ld,arrs_len,arrs_ld,ofX_len,ofX_push,ofX_0,ofX_1,ofX_2,ofX_s2,ofX_new,ofX_snew,oxB,oxU,oxA,oxsB,oxsU,oxsA,ext_push,stO,Nat.lt_add_one,kl1,ls,lt,lcs,lct,jq]) <;> (repeat' (first | exact trivial | refine And.intro ?_ ?_ | assumption | (unfold pid; omega) | (unfold pid Bas.kl; omega) | (unfold Bas.kl; omega)))) ?_; (try simp only[↓jr,jw,seval,jq2,q_p5,q_e5,ext_next,ext_tnext,set_next,set_tnext,Nat.le_refl,brow_len,brow_ld,arrs_len,arrs_ld,ofX_len,ofX_push,ofX_0,ofX_1,ofX_2,ofX_s2,ofX_new,ofX_snew,oxB,oxU,oxA,oxsB,oxsU,oxsA,ext_push,stO,Nat.lt_add_one,kl1,ls,lt,lcs,lct])))
      all_goals
        refine wc.intro (by unfold R64; omega) ?_
        (try simp only[↓jr,jw,seval,jq2,q_p5,q_e5,ext_next,ext_tnext,set_next,set_tnext,Nat.le_refl,brow_len,brow_ld,arrs_len,arrs_ld,ofX_len,ofX_push,ofX_0,ofX_1,ofX_2,ofX_s2,ofX_new,ofX_snew,oxB,oxU,oxA,oxsB,oxsU,oxsA,ext_push,stO,Nat.lt_add_one,kl1,ls,lt,lcs,lct])
        refine JNEXT.of (t + 1) (by omega) (by omega) ?_ (by rw [rowU_succ, hU1]; unfold stepU; simp only [*, Bool.true_or, Bool.false_or]; exact ofX_drop)
        (try simp only[↓jr,jw,seval,jq2,q_p5,q_e5,ext_next,ext_tnext,set_next,set_tnext,Nat.le_refl,brow_len,brow_ld,arrs_len,arrs_ld,ofX_len,ofX_push,ofX_0,ofX_1,ofX_2,ofX_s2,ofX_new,ofX_snew,oxB,oxU,oxA,oxsB,oxsU,oxsA,ext_push,stO,Nat.lt_add_one,kl1,ls,lt,lcs,lct,DL])
        exact ⟨SubB.eqi (by omega), SubB.v, SubB.arr (by unfold pid Bas.kl; omega), SubB.v, SubB.v, SubB.v, SubB.sl rfl (arrs_sub fun i hi => by unfold pid Bas.kl; omega), SubB.ptr (by unfold pid Bas.kl; omega), SubB.ptr (by unfold pid Bas.kl; omega), SubB.v⟩
    · (try simp only[↓jr,jw,seval,jq2,q_p5,q_e5,ext_next,ext_tnext,set_next,set_tnext,Nat.le_refl,brow_len,brow_ld,arrs_len,arrs_ld,ofX_len,ofX_push,ofX_0,ofX_1,ofX_2,ofX_s2,ofX_new,ofX_snew,oxB,oxU,oxA,oxsB,oxsU,oxsA,ext_push,stO,Nat.lt_add_one,kl1])
      have et : t = b.kr := by omega
      refine wc.intro (by unfold R64; omega) ?_
      (try simp only[↓jr,jw,seval,jq2,q_p5,q_e5,ext_next,ext_tnext,set_next,set_tnext,Nat.le_refl,brow_len,brow_ld,arrs_len,arrs_ld,ofX_len,ofX_push,ofX_0,ofX_1,ofX_2,ofX_s2,ofX_new,ofX_snew,oxB,oxU,oxA,oxsB,oxsU,oxsA,ext_push,stO,Nat.lt_add_one,kl1])
      refine JNEXT.of (s + 1) (by omega) (by omega) ?_ (by rw [et, allU_succ, hU0]; exact ofX_drop)
      (try simp only[↓jr,jw,seval,jq2,q_p5,q_e5,ext_next,ext_tnext,set_next,set_tnext,Nat.le_refl,brow_len,brow_ld,arrs_len,arrs_ld,ofX_len,ofX_push,ofX_0,ofX_1,ofX_2,ofX_s2,ofX_new,ofX_snew,oxB,oxU,oxA,oxsB,oxsU,oxsA,ext_push,stO,Nat.lt_add_one,kl1,DL])
      exact ⟨SubB.eqi (by omega), SubB.v, SubB.sl rfl (arrs_sub fun i hi => by unfold pid Bas.kl; omega), SubB.ptr (by unfold pid Bas.kl; omega), SubB.ptr (by unfold pid Bas.kl; omega), SubB.v⟩
  (try simp only[↓jr,jw,seval,jq2,q_p5,q_e5,ext_next,ext_tnext,set_next,set_tnext,Nat.le_refl,brow_len,brow_ld,arrs_len,arrs_ld,ofX_len,ofX_push,ofX_0,ofX_1,ofX_2,ofX_s2,ofX_new,ofX_snew,oxB,oxU,oxA,oxsB,oxsU,oxsA,ext_push,stO,Nat.lt_add_one,kl1])
  have es : s = b.kr := by omega
  subst es
  generalize hU2 : allU b.kc b.kr B1 (idm true) b.kr = U2
  have l1 := hb.li
  refine JLOOP.of (σ := Nat) (fun k => k ≤ b.incls.length) (fun k => b.incls.length - k)
    (fun k => [(149, I64 k), (148, I64 b.incls.length), (147, .sl .none b.incls.length (encs Inc.enc b.incls)), (1, .ptr (pid j.next 0) 0), (3, .ptr (pid j.next 1) 0), (4, I64 b.kz)])
    (fun k => ext j (ofX b j.next B1 (incS b U2 (b.incls.take k)).1 (incS b U2 (b.incls.take k)).2 (fun _ => false) [])) 0 (Nat.zero_le _) ?_ (JDropH.refl _) ?_
  · (try simp only[↓jr,jw,seval,jq2,q_p5,q_e5,ext_next,ext_tnext,set_next,set_tnext,Nat.le_refl,brow_len,brow_ld,arrs_len,arrs_ld,ofX_len,ofX_push,ofX_0,ofX_1,ofX_2,ofX_s2,ofX_new,ofX_snew,oxB,oxU,oxA,oxsB,oxsU,oxsA,ext_push,stO,Nat.lt_add_one,kl1,DL])
    exact ⟨SubB.v, SubB.v, SubB.sl rfl (SubBs.pure (encs_pur Inc.pur _)), SubB.ptr (by unfold pid Bas.kl; omega), SubB.ptr (by unfold pid Bas.kl; omega), SubB.v⟩
  clear hs g1
  rintro k hk
  (try simp only[↓jr,jw,seval,jq2,q_p5,q_e5,ext_next,ext_tnext,set_next,set_tnext,Nat.le_refl,brow_len,brow_ld,arrs_len,arrs_ld,ofX_len,ofX_push,ofX_0,ofX_1,ofX_2,ofX_s2,ofX_new,ofX_snew,oxB,oxU,oxA,oxsB,oxsU,oxsA,ext_push,stO,Nat.lt_add_one,kl1])
  refine wq.intro (fun g1 => ?_) (fun g1 => ?_)
  · have hlt : k < (b.incls).length := by omega
    obtain ⟨x, r, hd⟩ : ∃ c_ l_, List.drop k (b.incls) = c_ :: l_ := ⟨_, _, List.drop_eq_getElem_cons hlt⟩
    have hd1 : List.drop (k + 1) (b.incls) = r := by rw [← List.drop_drop, hd]; rfl
    have hmem : x ∈ b.incls := List.mem_of_mem_drop (hd ▸ List.mem_cons_self)
    (try simp only[↓jr,jw,seval,jq2,q_p5,q_e5,ext_next,ext_tnext,set_next,set_tnext,Nat.le_refl,brow_len,brow_ld,arrs_len,arrs_ld,ofX_len,ofX_push,ofX_0,ofX_1,ofX_2,ofX_s2,ofX_new,ofX_snew,oxB,oxU,oxA,oxsB,oxsU,oxsA,ext_push,stO,Nat.lt_add_one,kl1,hd])
    refine wc.intro (by omega) ?_
    obtain ⟨⟨hc1, hc2⟩, hcase⟩ := incl_cases hR hf hmem
    have hsm := shaped_small (basR_names hR) hc2
    obtain ⟨ea, la⟩ := idN_ok hc1 hc2
    have hft : incS b U2 (b.incls.take (k + 1)) = stepI b (incS b U2 (b.incls.take k)) x := fold_take (U2, idm false) hd
    generalize hUA : incS b U2 (b.incls.take k) = UA at hft
    obtain ⟨U3, A3⟩ := UA
    (try simp only[↓jr,jw,seval,jq2,q_p5,q_e5,ext_next,ext_tnext,set_next,set_tnext,Nat.le_refl,brow_len,brow_ld,arrs_len,arrs_ld,ofX_len,ofX_push,ofX_0,ofX_1,ofX_2,ofX_s2,ofX_new,ofX_snew,oxB,oxU,oxA,oxsB,oxsU,oxsA,ext_push,stO,Nat.lt_add_one,kl1,la,ea,hd])
    refine JCs.ret (s_AtO b h2 x.sub hsm _ _ _ _ _ _) ?_
    (try simp only[↓jr,jw,seval,jq2,q_p5,q_e5,ext_next,ext_tnext,set_next,set_tnext,Nat.le_refl,brow_len,brow_ld,arrs_len,arrs_ld,ofX_len,ofX_push,ofX_0,ofX_1,ofX_2,ofX_s2,ofX_new,ofX_snew,oxB,oxU,oxA,oxsB,oxsU,oxsA,ext_push,stO,Nat.lt_add_one,kl1,la,ea])
    rcases hcase with e2 | ⟨e3, a, eargs, ha1, ha2⟩ | ⟨n2, n3, ha1, ha2⟩
    · have _ := hft
      (try simp only[↓jr,jw,seval,jq2,q_p5,q_e5,ext_next,ext_tnext,set_next,set_tnext,Nat.le_refl,brow_len,brow_ld,arrs_len,arrs_ld,ofX_len,ofX_push,ofX_0,ofX_1,ofX_2,ofX_s2,ofX_new,ofX_snew,oxB,oxU,oxA,oxsB,oxsU,oxsA,ext_push,stO,Nat.lt_add_one,kl1,la,ea,e2])
      repeat' (first | (refine wc.bput (by omega) (by omega) ?_; (try simp only[↓jr,jw,seval,jq2,q_p5,q_e5,ext_next,ext_tnext,set_next,set_tnext,Nat.le_refl,brow_len,brow_ld,arrs_len,arrs_ld,ofX_len,ofX_push,ofX_0,ofX_1,ofX_2,ofX_s2,ofX_new,ofX_snew,oxB,oxU,oxA,oxsB,oxsU,oxsA,ext_push,stO,Nat.lt_add_one,kl1,la,ea,e2])) | (refine wc.intro (by omega) ?_; (try simp only[↓jr,jw,seval,jq2,q_p5,q_e5,ext_next,ext_tnext,set_next,set_tnext,Nat.le_refl,brow_len,brow_ld,arrs_len,arrs_ld,ofX_len,ofX_push,ofX_0,ofX_1,ofX_2,ofX_s2,ofX_new,ofX_snew,oxB,oxU,oxA,oxsB,oxsU,oxsA,ext_push,stO,Nat.lt_add_one,kl1,la,ea,e2])) | (refine JDRAW.oc (by (try simp only[↓jr,jw,seval,jq2,q_p5,q_e5,ext_next,ext_tnext,set_next,set_tnext,Nat.le_refl,brow_len,brow_ld,arrs_len,arrs_ld,ofX_len,ofX_push,ofX_0,ofX_1,ofX_2,ofX_s2,ofX_new,ofX_snew,oxB,oxU,oxA,oxsB,oxsU,oxsA,ext_push,stO,Nat.lt_add_one,kl1,la,ea,e2,jq]) <;> (repeat' (first | exact trivial | refine And.intro ?_ ?_ | assumption | (unfold pid; omega) | (unfold pid Bas.kl; omega) | (unfold Bas.kl; omega)))) ?_; (try simp only[↓jr,jw,seval,jq2,q_p5,q_e5,ext_next,ext_tnext,set_next,set_tnext,Nat.le_refl,brow_len,brow_ld,arrs_len,arrs_ld,ofX_len,ofX_push,ofX_0,ofX_1,ofX_2,ofX_s2,ofX_new,ofX_snew,oxB,oxU,oxA,oxsB,oxsU,oxsA,ext_push,stO,Nat.lt_add_one,kl1,la,ea,e2])))
      refine wc.intro (by unfold R64; omega) ?_
      (try simp only[↓jr,jw,seval,jq2,q_p5,q_e5,ext_next,ext_tnext,set_next,set_tnext,Nat.le_refl,brow_len,brow_ld,arrs_len,arrs_ld,ofX_len,ofX_push,ofX_0,ofX_1,ofX_2,ofX_s2,ofX_new,ofX_snew,oxB,oxU,oxA,oxsB,oxsU,oxsA,ext_push,stO,Nat.lt_add_one,kl1,la,ea,e2])
      refine JNEXT.of (k + 1) (by omega) (by omega) ?_ (by rw [hft]; simp only [stepI, e2, if_true]; exact ofX_drop)
      (try simp only[↓jr,jw,seval,jq2,q_p5,q_e5,ext_next,ext_tnext,set_next,set_tnext,Nat.le_refl,brow_len,brow_ld,arrs_len,arrs_ld,ofX_len,ofX_push,ofX_0,ofX_1,ofX_2,ofX_s2,ofX_new,ofX_snew,oxB,oxU,oxA,oxsB,oxsU,oxsA,ext_push,stO,Nat.lt_add_one,kl1,la,ea,e2,DL])
      exact ⟨SubB.eqi (by omega), SubB.v, SubB.sl rfl (SubBs.pure (encs_pur Inc.pur _)), SubB.ptr (by unfold pid Bas.kl; omega), SubB.ptr (by unfold pid Bas.kl; omega), SubB.v⟩
    · obtain ⟨eb, lb⟩ := idN_ok ha1 ha2
      have hsm2 := shaped_small (basR_names hR) ha2
      (try simp only[↓jr,jw,seval,jq2,q_p5,q_e5,ext_next,ext_tnext,set_next,set_tnext,Nat.le_refl,brow_len,brow_ld,arrs_len,arrs_ld,ofX_len,ofX_push,ofX_0,ofX_1,ofX_2,ofX_s2,ofX_new,ofX_snew,oxB,oxU,oxA,oxsB,oxsU,oxsA,ext_push,stO,Nat.lt_add_one,kl1,la,ea,lb,eb,e3,eargs])
      refine JCs.ret (s_AtO b h2 a hsm2 _ _ _ _ _ _) ?_
      (try simp only[↓jr,jw,seval,jq2,q_p5,q_e5,ext_next,ext_tnext,set_next,set_tnext,Nat.le_refl,brow_len,brow_ld,arrs_len,arrs_ld,ofX_len,ofX_push,ofX_0,ofX_1,ofX_2,ofX_s2,ofX_new,ofX_snew,oxB,oxU,oxA,oxsB,oxsU,oxsA,ext_push,stO,Nat.lt_add_one,kl1,la,ea,lb,eb,e3,eargs])
      repeat' (first | (refine wc.bput (by omega) (by omega) ?_; (try simp only[↓jr,jw,seval,jq2,q_p5,q_e5,ext_next,ext_tnext,set_next,set_tnext,Nat.le_refl,brow_len,brow_ld,arrs_len,arrs_ld,ofX_len,ofX_push,ofX_0,ofX_1,ofX_2,ofX_s2,ofX_new,ofX_snew,oxB,oxU,oxA,oxsB,oxsU,oxsA,ext_push,stO,Nat.lt_add_one,kl1,la,ea,lb,eb,e3,eargs])) | (refine wc.intro (by omega) ?_; (try simp only[↓jr,jw,seval,jq2,q_p5,q_e5,ext_next,ext_tnext,set_next,set_tnext,Nat.le_refl,brow_len,brow_ld,arrs_len,arrs_ld,ofX_len,ofX_push,ofX_0,ofX_1,ofX_2,ofX_s2,ofX_new,ofX_snew,oxB,oxU,oxA,oxsB,oxsU,oxsA,ext_push,stO,Nat.lt_add_one,kl1,la,ea,lb,eb,e3,eargs])) | (refine JDRAW.oc (by (try simp only[↓jr,jw,seval,jq2,q_p5,q_e5,ext_next,ext_tnext,set_next,set_tnext,Nat.le_refl,brow_len,brow_ld,arrs_len,arrs_ld,ofX_len,ofX_push,ofX_0,ofX_1,ofX_2,ofX_s2,ofX_new,ofX_snew,oxB,oxU,oxA,oxsB,oxsU,oxsA,ext_push,stO,Nat.lt_add_one,kl1,la,ea,lb,eb,e3,eargs,jq]) <;> (repeat' (first | exact trivial | refine And.intro ?_ ?_ | assumption | (unfold pid; omega) | (unfold pid Bas.kl; omega) | (unfold Bas.kl; omega)))) ?_; (try simp only[↓jr,jw,seval,jq2,q_p5,q_e5,ext_next,ext_tnext,set_next,set_tnext,Nat.le_refl,brow_len,brow_ld,arrs_len,arrs_ld,ofX_len,ofX_push,ofX_0,ofX_1,ofX_2,ofX_s2,ofX_new,ofX_snew,oxB,oxU,oxA,oxsB,oxsU,oxsA,ext_push,stO,Nat.lt_add_one,kl1,la,ea,lb,eb,e3,eargs])))
      refine wc.intro (by unfold R64; omega) ?_
      (try simp only[↓jr,jw,seval,jq2,q_p5,q_e5,ext_next,ext_tnext,set_next,set_tnext,Nat.le_refl,brow_len,brow_ld,arrs_len,arrs_ld,ofX_len,ofX_push,ofX_0,ofX_1,ofX_2,ofX_s2,ofX_new,ofX_snew,oxB,oxU,oxA,oxsB,oxsU,oxsA,ext_push,stO,Nat.lt_add_one,kl1,la,ea,lb,eb,e3,eargs])
      refine JNEXT.of (k + 1) (by omega) (by omega) ?_ (by rw [hft]; simp only [stepI, e3, eargs, List.headD_cons, if_true, if_false, Int.reduceEq]; exact ofX_drop)
      (try simp only[↓jr,jw,seval,jq2,q_p5,q_e5,ext_next,ext_tnext,set_next,set_tnext,Nat.le_refl,brow_len,brow_ld,arrs_len,arrs_ld,ofX_len,ofX_push,ofX_0,ofX_1,ofX_2,ofX_s2,ofX_new,ofX_snew,oxB,oxU,oxA,oxsB,oxsU,oxsA,ext_push,stO,Nat.lt_add_one,kl1,la,ea,lb,eb,e3,eargs,DL])
      exact ⟨SubB.eqi (by omega), SubB.v, SubB.sl rfl (SubBs.pure (encs_pur Inc.pur _)), SubB.ptr (by unfold pid Bas.kl; omega), SubB.ptr (by unfold pid Bas.kl; omega), SubB.v⟩
    · obtain ⟨eb, lb⟩ := idN_ok ha1 ha2
      have hsm2 := shaped_small (basR_names hR) ha2
      (try simp only[↓jr,jw,seval,jq2,q_p5,q_e5,ext_next,ext_tnext,set_next,set_tnext,Nat.le_refl,brow_len,brow_ld,arrs_len,arrs_ld,ofX_len,ofX_push,ofX_0,ofX_1,ofX_2,ofX_s2,ofX_new,ofX_snew,oxB,oxU,oxA,oxsB,oxsU,oxsA,ext_push,stO,Nat.lt_add_one,kl1,la,ea,lb,eb])
      refine wq.intro (fun q => absurd q n2) (fun _ => ?_)
      (try simp only[↓jr,jw,seval,jq2,q_p5,q_e5,ext_next,ext_tnext,set_next,set_tnext,Nat.le_refl,brow_len,brow_ld,arrs_len,arrs_ld,ofX_len,ofX_push,ofX_0,ofX_1,ofX_2,ofX_s2,ofX_new,ofX_snew,oxB,oxU,oxA,oxsB,oxsU,oxsA,ext_push,stO,Nat.lt_add_one,kl1,la,ea,lb,eb])
      refine wq.intro (fun q => absurd q n3) (fun _ => ?_)
      (try simp only[↓jr,jw,seval,jq2,q_p5,q_e5,ext_next,ext_tnext,set_next,set_tnext,Nat.le_refl,brow_len,brow_ld,arrs_len,arrs_ld,ofX_len,ofX_push,ofX_0,ofX_1,ofX_2,ofX_s2,ofX_new,ofX_snew,oxB,oxU,oxA,oxsB,oxsU,oxsA,ext_push,stO,Nat.lt_add_one,kl1,la,ea,lb,eb])
      repeat' (first | (refine wc.bput (by omega) (by omega) ?_; (try simp only[↓jr,jw,seval,jq2,q_p5,q_e5,ext_next,ext_tnext,set_next,set_tnext,Nat.le_refl,brow_len,brow_ld,arrs_len,arrs_ld,ofX_len,ofX_push,ofX_0,ofX_1,ofX_2,ofX_s2,ofX_new,ofX_snew,oxB,oxU,oxA,oxsB,oxsU,oxsA,ext_push,stO,Nat.lt_add_one,kl1,la,ea,lb,eb])) | (refine wc.intro (by omega) ?_; (try simp only[↓jr,jw,seval,jq2,q_p5,q_e5,ext_next,ext_tnext,set_next,set_tnext,Nat.le_refl,brow_len,brow_ld,arrs_len,arrs_ld,ofX_len,ofX_push,ofX_0,ofX_1,ofX_2,ofX_s2,ofX_new,ofX_snew,oxB,oxU,oxA,oxsB,oxsU,oxsA,ext_push,stO,Nat.lt_add_one,kl1,la,ea,lb,eb])) | (refine JDC.use (s_AtO b h2 x.sup hsm2 _ _ _ _ _ _) ?_; (try simp only[↓jr,jw,seval,jq2,q_p5,q_e5,ext_next,ext_tnext,set_next,set_tnext,Nat.le_refl,brow_len,brow_ld,arrs_len,arrs_ld,ofX_len,ofX_push,ofX_0,ofX_1,ofX_2,ofX_s2,ofX_new,ofX_snew,oxB,oxU,oxA,oxsB,oxsU,oxsA,ext_push,stO,Nat.lt_add_one,kl1,la,ea,lb,eb])) | (refine JDRAW.oc (by (try simp only[↓jr,jw,seval,jq2,q_p5,q_e5,ext_next,ext_tnext,set_next,set_tnext,Nat.le_refl,brow_len,brow_ld,arrs_len,arrs_ld,ofX_len,ofX_push,ofX_0,ofX_1,ofX_2,ofX_s2,ofX_new,ofX_snew,oxB,oxU,oxA,oxsB,oxsU,oxsA,ext_push,stO,Nat.lt_add_one,kl1,la,ea,lb,eb,jq]) <;> (repeat' (first | exact trivial | refine And.intro ?_ ?_ | assumption | (unfold pid; omega) | (unfold pid Bas.kl; omega) | (unfold Bas.kl; omega)))) ?_; (try simp only[↓jr,jw,seval,jq2,q_p5,q_e5,ext_next,ext_tnext,set_next,set_tnext,Nat.le_refl,brow_len,brow_ld,arrs_len,arrs_ld,ofX_len,ofX_push,ofX_0,ofX_1,ofX_2,ofX_s2,ofX_new,ofX_snew,oxB,oxU,oxA,oxsB,oxsU,oxsA,ext_push,stO,Nat.lt_add_one,kl1,la,ea,lb,eb])))
      refine wc.intro (by unfold R64; omega) ?_
      (try simp only[↓jr,jw,seval,jq2,q_p5,q_e5,ext_next,ext_tnext,set_next,set_tnext,Nat.le_refl,brow_len,brow_ld,arrs_len,arrs_ld,ofX_len,ofX_push,ofX_0,ofX_1,ofX_2,ofX_s2,ofX_new,ofX_snew,oxB,oxU,oxA,oxsB,oxsU,oxsA,ext_push,stO,Nat.lt_add_one,kl1,la,ea,lb,eb])
      refine JNEXT.of (k + 1) (by omega) (by omega) ?_ (by rw [hft]; simp only [stepI, n2, n3, if_false]; exact ofX_drop)
      (try simp only[↓jr,jw,seval,jq2,q_p5,q_e5,ext_next,ext_tnext,set_next,set_tnext,Nat.le_refl,brow_len,brow_ld,arrs_len,arrs_ld,ofX_len,ofX_push,ofX_0,ofX_1,ofX_2,ofX_s2,ofX_new,ofX_snew,oxB,oxU,oxA,oxsB,oxsU,oxsA,ext_push,stO,Nat.lt_add_one,kl1,la,ea,lb,eb,DL])
      exact ⟨SubB.eqi (by omega), SubB.v, SubB.sl rfl (SubBs.pure (encs_pur Inc.pur _)), SubB.ptr (by unfold pid Bas.kl; omega), SubB.ptr (by unfold pid Bas.kl; omega), SubB.v⟩
  (try simp only[↓jr,jw,seval,jq2,q_p5,q_e5,ext_next,ext_tnext,set_next,set_tnext,Nat.le_refl,brow_len,brow_ld,arrs_len,arrs_ld,ofX_len,ofX_push,ofX_0,ofX_1,ofX_2,ofX_s2,ofX_new,ofX_snew,oxB,oxU,oxA,oxsB,oxsU,oxsA,ext_push,stO,Nat.lt_add_one,kl1])
  have ek : k = b.incls.length := by omega
  subst ek
  rw [List.take_length]
  have hUA : incS b U2 b.incls = OI b := by unfold OI; rw [← hU2, ← hB1, ← hB0]; rfl
  rw [hUA]
  generalize hU4 : (OI b).1 = U4
  generalize hA4 : (OI b).2 = A4
  refine JCs.ret (s_closedU b h2 B1 U4 A4 (fun _ => false) [] j) ?_
  generalize hU5 : clK b.kz U4 b.kz = U5
  (try simp only[↓jr,jw,seval,jq2,q_p5,q_e5,ext_next,ext_tnext,set_next,set_tnext,Nat.le_refl,brow_len,brow_ld,arrs_len,arrs_ld,ofX_len,ofX_push,ofX_0,ofX_1,ofX_2,ofX_s2,ofX_new,ofX_snew,oxB,oxU,oxA,oxsB,oxsU,oxsA,ext_push,stO,Nat.lt_add_one,kl1])
  generalize hVV : (fun E i => voidR (ruOf b 0 B1 U5 A4 E) i) = V
  have hV : ∀ E i, voidR (ruOf b 0 B1 U5 A4 E) i = V E i := fun E i => by rw [← hVV]
  have hOE : vdsG V b.kz (b.kz + 1) (fun _ => false) = OE b := by unfold OE vdG OV OU OA; rw [hU4, hA4, hU5, ← hVV, ← hB1, ← hB0]; rfl
  have hOF : ext j (ofX b j.next B1 U5 A4 (OE b) []) = ext j (ofN b j.next) := by unfold ofN OU OA; rw [hU4, hA4, hU5, ← hB1, ← hB0]; rfl
  generalize OE b = EV at hOE hOF
  refine JLOOP.of (σ := (Nat → Bool) × Bool × Nat) (fun s => (s.2.1 = true → vfrG b.kz s.1 < s.2.2 ∧ vdsG V b.kz s.2.2 s.1 = EV) ∧ (s.2.1 = false → s.1 = EV)) (fun s => if s.2.1 then vfrG b.kz s.1 + 1 else 0)
    (fun s => [(15, BOO s.2.1), (1, .ptr (pid j.next 0) 0), (3, .ptr (pid j.next 1) 0), (4, I64 b.kz)])
    (fun s => ext j (ofX b j.next B1 U5 A4 s.1 [])) (fun _ => false, true, b.kz + 1) ⟨fun _ => ⟨by have := vfrG_le b.kz (fun _ => false); simp only; omega, by simp only; exact hOE⟩, fun q => by cases q⟩ ?_ (JDropH.refl _) ?_
  · (try simp only[↓jr,jw,seval,jq2,q_p5,q_e5,ext_next,ext_tnext,set_next,set_tnext,Nat.le_refl,brow_len,brow_ld,arrs_len,arrs_ld,ofX_len,ofX_push,ofX_0,ofX_1,ofX_2,ofX_s2,ofX_new,ofX_snew,oxB,oxU,oxA,oxsB,oxsU,oxsA,ext_push,stO,Nat.lt_add_one,kl1,DL])
    exact ⟨SubB.v, SubB.ptr (by unfold pid Bas.kl; omega), SubB.ptr (by unfold pid Bas.kl; omega), SubB.v⟩
  rintro ⟨M, mo, f⟩ ⟨hI1, hI2⟩
  simp only at hI1 hI2
  (try simp only[↓jr,jw,seval,jq2,q_p5,q_e5,ext_next,ext_tnext,set_next,set_tnext,Nat.le_refl,brow_len,brow_ld,arrs_len,arrs_ld,ofX_len,ofX_push,ofX_0,ofX_1,ofX_2,ofX_s2,ofX_new,ofX_snew,oxB,oxU,oxA,oxsB,oxsU,oxsA,ext_push,stO,Nat.lt_add_one,kl1])
  refine ww.intro (fun h0 => ?_) (fun h0 => ?_)
  · obtain ⟨hf, hv⟩ := hI1 h0
    (try simp only[↓jr,jw,seval,jq2,q_p5,q_e5,ext_next,ext_tnext,set_next,set_tnext,Nat.le_refl,brow_len,brow_ld,arrs_len,arrs_ld,ofX_len,ofX_push,ofX_0,ofX_1,ofX_2,ofX_s2,ofX_new,ofX_snew,oxB,oxU,oxA,oxsB,oxsU,oxsA,ext_push,stO,Nat.lt_add_one,kl1])
    refine JLOOP.of (σ := Nat) (fun c => c ≤ b.kz) (fun c => b.kz - c) (fun c => [(218, I64 c), (217, I64 b.kz), (15, BOO (vpsG V M c).2), (1, .ptr (pid j.next 0) 0), (3, .ptr (pid j.next 1) 0), (4, I64 b.kz)]) (fun c => ext j (ofX b j.next B1 U5 A4 (vpsG V M c).1 [])) 0 (by omega) ?_ (JDropH.refl _) ?_
    · (try simp only[↓jr,jw,seval,jq2,q_p5,q_e5,ext_next,ext_tnext,set_next,set_tnext,Nat.le_refl,brow_len,brow_ld,arrs_len,arrs_ld,ofX_len,ofX_push,ofX_0,ofX_1,ofX_2,ofX_s2,ofX_new,ofX_snew,oxB,oxU,oxA,oxsB,oxsU,oxsA,ext_push,stO,Nat.lt_add_one,kl1,DL])
      exact ⟨SubB.v, SubB.v, SubB.boo rfl, SubB.ptr (by unfold pid Bas.kl; omega), SubB.ptr (by unfold pid Bas.kl; omega), SubB.v⟩
    rintro c hc
    (try simp only[↓jr,jw,seval,jq2,q_p5,q_e5,ext_next,ext_tnext,set_next,set_tnext,Nat.le_refl,brow_len,brow_ld,arrs_len,arrs_ld,ofX_len,ofX_push,ofX_0,ofX_1,ofX_2,ofX_s2,ofX_new,ofX_snew,oxB,oxU,oxA,oxsB,oxsU,oxsA,ext_push,stO,Nat.lt_add_one,kl1])
    refine wq.intro (fun h1 => ?_) (fun h1 => ?_)
    · have lc : c < b.kz := by omega
      have nx : ∀ {q : (Nat → Bool) × Bool}, vstG V (vpsG V M c) c = q → vpsG V M (c + 1) = q := fun e => by rw [vpsG_succ]; exact e
      have stay : (!(vpsG V M c).1 c && V (vpsG V M c).1 c) = false → vpsG V M (c + 1) = vpsG V M c := fun q => nx (by unfold vstG; rw [if_neg (by rw [q]; exact Bool.false_ne_true)])
      have go : (!(vpsG V M c).1 c && V (vpsG V M c).1 c) = true → vpsG V M (c + 1) = (upd (vpsG V M c).1 c true, true) := fun q => nx (by unfold vstG; rw [if_pos q])
      generalize hP : vpsG V M c = P at *
      have kl2 : 2 < b.kl := by unfold Bas.kl; omega
      have kl3 : 2 < b.kl + 0 := by omega
      (try simp only[↓jr,jw,seval,jq2,q_p5,q_e5,ext_next,ext_tnext,set_next,set_tnext,Nat.le_refl,brow_len,brow_ld,arrs_len,arrs_ld,ofX_len,ofX_push,ofX_0,ofX_1,ofX_2,ofX_s2,ofX_new,ofX_snew,oxB,oxU,oxA,oxsB,oxsU,oxsA,ext_push,stO,Nat.lt_add_one,kl1,kl2,kl3])
      refine wc.intro (by omega) ?_
      (try simp only[↓jr,jw,seval,jq2,q_p5,q_e5,ext_next,ext_tnext,set_next,set_tnext,Nat.le_refl,brow_len,brow_ld,arrs_len,arrs_ld,ofX_len,ofX_push,ofX_0,ofX_1,ofX_2,ofX_s2,ofX_new,ofX_snew,oxB,oxU,oxA,oxsB,oxsU,oxsA,ext_push,stO,Nat.lt_add_one,kl1,kl2,kl3])
      refine wc.intro (by omega) ?_
      (try simp only[↓jr,jw,seval,jq2,q_p5,q_e5,ext_next,ext_tnext,set_next,set_tnext,Nat.le_refl,brow_len,brow_ld,arrs_len,arrs_ld,ofX_len,ofX_push,ofX_0,ofX_1,ofX_2,ofX_s2,ofX_new,ofX_snew,oxB,oxU,oxA,oxsB,oxsU,oxsA,ext_push,stO,Nat.lt_add_one,kl1,kl2,kl3])
      refine ww.intro (fun q2 => ?_) (fun q2 => ?_)
      · (try simp only[↓jr,jw,seval,jq2,q_p5,q_e5,ext_next,ext_tnext,set_next,set_tnext,Nat.le_refl,brow_len,brow_ld,arrs_len,arrs_ld,ofX_len,ofX_push,ofX_0,ofX_1,ofX_2,ofX_s2,ofX_new,ofX_snew,oxB,oxU,oxA,oxsB,oxsU,oxsA,ext_push,stO,Nat.lt_add_one,kl1,kl2,kl3])
        refine wc.intro (by unfold R64; omega) ?_
        (try simp only[↓jr,jw,seval,jq2,q_p5,q_e5,ext_next,ext_tnext,set_next,set_tnext,Nat.le_refl,brow_len,brow_ld,arrs_len,arrs_ld,ofX_len,ofX_push,ofX_0,ofX_1,ofX_2,ofX_s2,ofX_new,ofX_snew,oxB,oxU,oxA,oxsB,oxsU,oxsA,ext_push,stO,Nat.lt_add_one,kl1])
        have e := stay (by rw [q2]; rfl)
        refine JNEXT.of (c + 1) (by omega) (by omega) ?_ (by rw [e]; exact ofX_drop)
        (try simp only[↓jr,jw,seval,jq2,q_p5,q_e5,ext_next,ext_tnext,set_next,set_tnext,Nat.le_refl,brow_len,brow_ld,arrs_len,arrs_ld,ofX_len,ofX_push,ofX_0,ofX_1,ofX_2,ofX_s2,ofX_new,ofX_snew,oxB,oxU,oxA,oxsB,oxsU,oxsA,ext_push,stO,Nat.lt_add_one,kl1,DL])
        exact ⟨SubB.eqi (by omega), SubB.v, SubB.boo (by rw [e]), SubB.ptr (by unfold pid Bas.kl; omega), SubB.ptr (by unfold pid Bas.kl; omega), SubB.v⟩
      · (try simp only[↓jr,jw,seval,jq2,q_p5,q_e5,ext_next,ext_tnext,set_next,set_tnext,Nat.le_refl,brow_len,brow_ld,arrs_len,arrs_ld,ofX_len,ofX_push,ofX_0,ofX_1,ofX_2,ofX_s2,ofX_new,ofX_snew,oxB,oxU,oxA,oxsB,oxsU,oxsA,ext_push,stO,Nat.lt_add_one,kl1,kl2,kl3])
        refine JCs.ret (s_voidO b h2 c lc _ _ _ _ _ _) ?_
        rw [hV]
        (try simp only[↓jr,jw,seval,jq2,q_p5,q_e5,ext_next,ext_tnext,set_next,set_tnext,Nat.le_refl,brow_len,brow_ld,arrs_len,arrs_ld,ofX_len,ofX_push,ofX_0,ofX_1,ofX_2,ofX_s2,ofX_new,ofX_snew,oxB,oxU,oxA,oxsB,oxsU,oxsA,ext_push,stO,Nat.lt_add_one,kl1,kl2,kl3])
        refine ww.intro (fun q3 => ?_) (fun q3 => ?_)
        · (try simp only[↓jr,jw,seval,jq2,q_p5,q_e5,ext_next,ext_tnext,set_next,set_tnext,Nat.le_refl,brow_len,brow_ld,arrs_len,arrs_ld,ofX_len,ofX_push,ofX_0,ofX_1,ofX_2,ofX_s2,ofX_new,ofX_snew,oxB,oxU,oxA,oxsB,oxsU,oxsA,ext_push,stO,Nat.lt_add_one,kl1,kl2,kl3])
          repeat' (first | (refine wc.bput (by omega) (by omega) ?_; (try simp only[↓jr,jw,seval,jq2,q_p5,q_e5,ext_next,ext_tnext,set_next,set_tnext,Nat.le_refl,brow_len,brow_ld,arrs_len,arrs_ld,ofX_len,ofX_push,ofX_0,ofX_1,ofX_2,ofX_s2,ofX_new,ofX_snew,oxB,oxU,oxA,oxsB,oxsU,oxsA,ext_push,stO,Nat.lt_add_one,kl1,kl2,kl3])) | (refine wc.intro (by omega) ?_; (try simp only[↓jr,jw,seval,jq2,q_p5,q_e5,ext_next,ext_tnext,set_next,set_tnext,Nat.le_refl,brow_len,brow_ld,arrs_len,arrs_ld,ofX_len,ofX_push,ofX_0,ofX_1,ofX_2,ofX_s2,ofX_new,ofX_snew,oxB,oxU,oxA,oxsB,oxsU,oxsA,ext_push,stO,Nat.lt_add_one,kl1,kl2,kl3])) | fail)
          refine wc.intro (by unfold R64; omega) ?_
          (try simp only[↓jr,jw,seval,jq2,q_p5,q_e5,ext_next,ext_tnext,set_next,set_tnext,Nat.le_refl,brow_len,brow_ld,arrs_len,arrs_ld,ofX_len,ofX_push,ofX_0,ofX_1,ofX_2,ofX_s2,ofX_new,ofX_snew,oxB,oxU,oxA,oxsB,oxsU,oxsA,ext_push,stO,Nat.lt_add_one,kl1])
          have e := go (by rw [q2, q3]; rfl)
          refine JNEXT.of (c + 1) (by omega) (by omega) ?_ (by rw [e]; exact ofX_drop)
          (try simp only[↓jr,jw,seval,jq2,q_p5,q_e5,ext_next,ext_tnext,set_next,set_tnext,Nat.le_refl,brow_len,brow_ld,arrs_len,arrs_ld,ofX_len,ofX_push,ofX_0,ofX_1,ofX_2,ofX_s2,ofX_new,ofX_snew,oxB,oxU,oxA,oxsB,oxsU,oxsA,ext_push,stO,Nat.lt_add_one,kl1,DL])
          exact ⟨SubB.eqi (by omega), SubB.v, SubB.boo (by rw [e]), SubB.ptr (by unfold pid Bas.kl; omega), SubB.ptr (by unfold pid Bas.kl; omega), SubB.v⟩
        · (try simp only[↓jr,jw,seval,jq2,q_p5,q_e5,ext_next,ext_tnext,set_next,set_tnext,Nat.le_refl,brow_len,brow_ld,arrs_len,arrs_ld,ofX_len,ofX_push,ofX_0,ofX_1,ofX_2,ofX_s2,ofX_new,ofX_snew,oxB,oxU,oxA,oxsB,oxsU,oxsA,ext_push,stO,Nat.lt_add_one,kl1,kl2,kl3])
          refine wc.intro (by unfold R64; omega) ?_
          (try simp only[↓jr,jw,seval,jq2,q_p5,q_e5,ext_next,ext_tnext,set_next,set_tnext,Nat.le_refl,brow_len,brow_ld,arrs_len,arrs_ld,ofX_len,ofX_push,ofX_0,ofX_1,ofX_2,ofX_s2,ofX_new,ofX_snew,oxB,oxU,oxA,oxsB,oxsU,oxsA,ext_push,stO,Nat.lt_add_one,kl1])
          have e := stay (by rw [q2, q3]; rfl)
          refine JNEXT.of (c + 1) (by omega) (by omega) ?_ (by rw [e]; exact ofX_drop)
          (try simp only[↓jr,jw,seval,jq2,q_p5,q_e5,ext_next,ext_tnext,set_next,set_tnext,Nat.le_refl,brow_len,brow_ld,arrs_len,arrs_ld,ofX_len,ofX_push,ofX_0,ofX_1,ofX_2,ofX_s2,ofX_new,ofX_snew,oxB,oxU,oxA,oxsB,oxsU,oxsA,ext_push,stO,Nat.lt_add_one,kl1,DL])
          exact ⟨SubB.eqi (by omega), SubB.v, SubB.boo (by rw [e]), SubB.ptr (by unfold pid Bas.kl; omega), SubB.ptr (by unfold pid Bas.kl; omega), SubB.v⟩
    · (try simp only[↓jr,jw,seval,jq2,q_p5,q_e5,ext_next,ext_tnext,set_next,set_tnext,Nat.le_refl,brow_len,brow_ld,arrs_len,arrs_ld,ofX_len,ofX_push,ofX_0,ofX_1,ofX_2,ofX_s2,ofX_new,ofX_snew,oxB,oxU,oxA,oxsB,oxsU,oxsA,ext_push,stO,Nat.lt_add_one,kl1])
      have ec : c = b.kz := by omega
      rw [ec]
      obtain ⟨f1, f2⟩ := vpsG_free V b.kz M b.kz (Nat.le_refl _)
      cases f with
      | zero => omega
      | succ f =>
        rw [vdsG] at hv
        refine JNEXT.of ((vpsG V M b.kz).1, (vpsG V M b.kz).2, f) ⟨fun q => ?_, fun q => ?_⟩ ?_ ?_ ofX_drop
        · simp only at q ⊢
          rw [if_pos q] at hv
          exact ⟨by have := f2 q; omega, hv⟩
        · simp only at q ⊢
          rw [if_neg (by rw [q]; exact Bool.false_ne_true)] at hv; exact hv
        · simp only
          rw [if_pos h0]
          split
          · rename_i q; have := f2 q; omega
          · omega
        · (try simp only[↓jr,jw,seval,jq2,q_p5,q_e5,ext_next,ext_tnext,set_next,set_tnext,Nat.le_refl,brow_len,brow_ld,arrs_len,arrs_ld,ofX_len,ofX_push,ofX_0,ofX_1,ofX_2,ofX_s2,ofX_new,ofX_snew,oxB,oxU,oxA,oxsB,oxsU,oxsA,ext_push,stO,Nat.lt_add_one,kl1,DL])
          exact ⟨SubB.boo rfl, SubB.ptr (by unfold pid Bas.kl; omega), SubB.ptr (by unfold pid Bas.kl; omega), SubB.v⟩
  · (try simp only[↓jr,jw,seval,jq2,q_p5,q_e5,ext_next,ext_tnext,set_next,set_tnext,Nat.le_refl,brow_len,brow_ld,arrs_len,arrs_ld,ofX_len,ofX_push,ofX_0,ofX_1,ofX_2,ofX_s2,ofX_new,ofX_snew,oxB,oxU,oxA,oxsB,oxsU,oxsA,ext_push,stO,Nat.lt_add_one,kl1])
    rw [hI2 h0]
    refine JFIN.ret (J := ext j (ofN b j.next)) (by rw [← hOF]; exact ofX_keep) (SubB.ptr ?_)
    rw [← hOF, ext_next, ofX_len]; unfold pid Bas.kl; omega
end Go.Proofs.YtkcbhebbjpiibaaDoor.Pg
