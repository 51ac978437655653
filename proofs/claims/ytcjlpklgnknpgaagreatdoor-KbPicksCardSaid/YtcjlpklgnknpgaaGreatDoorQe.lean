/-
  Strings of concepts.
-/
import Derived.Test.YtcjlpklgnknpgaaGreatDoorQc
set_option linter.unusedVariables false
set_option linter.unusedSimpArgs false
set_option maxRecDepth 100000
set_option maxHeartbeats 8000000
namespace Go.Proofs.YtcjlpklgnknpgaaGreatDoor.Pg
open Go
def nthS (l : List ByteArray) (i : Nat) : ByteArray := (l[i]?).getD ⟨#[]⟩
def roleS (m : Nms) (r : Int) : ByteArray := if r.tmod 2 = 1 then nthS m.rs (r.tdiv 2).toNat ++ ⟨#[45]⟩ else nthS m.rs (r.tdiv 2).toNat
mutual
def strC (m : Nms) : Con → ByteArray
 | .mk o n l => if o = 0 then nthS m.cs n.toNat else if o = 1 then ⟨#[116, 111, 112]⟩ else if o = 2 then ⟨#[98, 111, 116]⟩ else if o = 3 then ⟨#[110, 111, 116, 32]⟩ ++ strH m l
  else if o = 4 then ⟨#[40]⟩ ++ strH m l ++ ⟨#[32, 97, 110, 100, 32]⟩ ++ strT m l ++ ⟨#[41]⟩
  else if o = 5 then ⟨#[40]⟩ ++ strH m l ++ ⟨#[32, 111, 114, 32]⟩ ++ strT m l ++ ⟨#[41]⟩
  else if o = 6 then ⟨#[115, 111, 109, 101, 32]⟩ ++ roleS m n ++ ⟨#[32]⟩ ++ strH m l
  else ⟨#[97, 108, 108, 32]⟩ ++ roleS m n ++ ⟨#[32]⟩ ++ strH m l
def strH (m : Nms) : List Con → ByteArray
 | [] => ⟨#[]⟩
 | c :: _ => strC m c
def strT (m : Nms) : List Con → ByteArray
 | [] => ⟨#[]⟩
 | _ :: l => strH m l
end
theorem ba_size_append (a b : ByteArray) : (a ++ b).size = a.size + b.size := by
 rw [← bs_len, bs_append, List.length_append, bs_len, bs_len]
section
variable {m : GM} {G : Nat → Option (List AV)}
noncomputable def ir203 : IFn := ⟨21, [⟨4, none⟩], (.seq (.reg [oA 2 (.box 24 (.r 0)), oA 4 (.mov (.k (.v (.string ⟨#[]⟩))))]) (.seq (.seq (.reg [oA 5 (kM 1), oA 6 (.bin .rem (.r 5) (kI 2)), oA 7 (.bin .eql (.r 6) (kI 1))]) (.cond (.r 7) (.seq (.reg [oA 8 (.fadr 1 (.r 2)), oL 9 8 none, oA 10 (kM 1), oA 11 (.bin .quo (.r 10) (kI 2)), oA 12 (.iasl 1 (.r 9) (.r 11)), oL 13 12 none, oA 14 (.bin .add (.r 13) (.k (.v (.string ⟨#[45]⟩)))), oA 4 (kM 14)]) .ret) .skip)) (.seq (.reg [oA 15 (.fadr 1 (.r 2)), oL 16 15 none, oA 17 (kM 1), oA 18 (.bin .quo (.r 17) (kI 2)), oA 19 (.iasl 1 (.r 16) (.r 18)), oL 20 19 none, oA 4 (kM 20)]) .ret)))⟩
theorem c203 : cfunc Tryz.prog 203 = some ir203 := by kernel_rfl
theorem k203 : okIR (max 2 ir203.n) ir203.ir = true := by decide +kernel
noncomputable def ir202 : IFn := ⟨92, [⟨4, none⟩], (.seq (.reg [oA 2 (.box 24 (.r 0)), oA 3 (.box 71 (.r 1)), oA 4 (.mov (.k (.v (.string ⟨#[]⟩))))]) (.seq (.seq (.reg [oA 5 (.fadr 0 (.r 3)), oL 6 5 none]) (.block 0 (.seq (.reg [oA 8 (.bin .eql (.r 6) (kI 0)), oA 7 (kM 8)]) (.cond (.r 7) (.seq (.reg [oA 9 (.fadr 0 (.r 2)), oL 10 9 none, oA 11 (.fadr 1 (.r 3)), oL 12 11 none, oA 13 (.iasl 1 (.r 10) (.r 12)), oL 14 13 none, oA 4 (kM 14)]) .ret) (.seq (.reg [oA 16 (.bin .eql (.r 6) (kI 1)), oA 15 (kM 16)]) (.cond (.r 15) (.seq (.reg [oA 4 (.mov (.k (.v (.string ⟨#[116, 111, 112]⟩))))]) .ret) (.seq (.reg [oA 18 (.bin .eql (.r 6) (kI 2)), oA 17 (kM 18)]) (.cond (.r 17) (.seq (.reg [oA 4 (.mov (.k (.v (.string ⟨#[98, 111, 116]⟩))))]) .ret) (.seq (.reg [oA 20 (.bin .eql (.r 6) (kI 3)), oA 19 (kM 20)]) (.cond (.r 19) (.seq (.draw [oL 21 2 (some 3), oA 22 (.fadr 2 (.r 3)), oL 23 22 none, oA 24 (.iasl 3 (.r 23) (kI 0)), oL 25 24 (some 3), oA 26 (.call 202 [.r 21, .r 25]), oA 27 (.bin .add (.k (.v (.string ⟨#[110, 111, 116, 32]⟩))) (.r 26)), oA 4 (kM 27)] []) .ret) (.seq (.reg [oA 29 (.bin .eql (.r 6) (kI 4)), oA 28 (kM 29)]) (.cond (.r 28) (.seq (.draw [oL 30 2 (some 3), oA 31 (.fadr 2 (.r 3)), oL 32 31 none, oA 33 (.iasl 3 (.r 32) (kI 0)), oL 34 33 (some 3), oA 35 (.call 202 [.r 30, .r 34]), oA 36 (.bin .add (.k (.v (.string ⟨#[40]⟩))) (.r 35)), oA 37 (.bin .add (.r 36) (.k (.v (.string ⟨#[32, 97, 110, 100, 32]⟩)))), oL 38 2 (some 3), oA 39 (.fadr 2 (.r 3)), oL 40 39 none, oA 41 (.iasl 3 (.r 40) (kI 1)), oL 42 41 (some 3), oA 43 (.call 202 [.r 38, .r 42]), oA 44 (.bin .add (.r 37) (.r 43)), oA 45 (.bin .add (.r 44) (.k (.v (.string ⟨#[41]⟩)))), oA 4 (kM 45)] [(8, 5), (10, 5), (12, 5)]) .ret) (.seq (.reg [oA 47 (.bin .eql (.r 6) (kI 5)), oA 46 (kM 47)]) (.cond (.r 46) (.seq (.draw [oL 48 2 (some 3), oA 49 (.fadr 2 (.r 3)), oL 50 49 none, oA 51 (.iasl 3 (.r 50) (kI 0)), oL 52 51 (some 3), oA 53 (.call 202 [.r 48, .r 52]), oA 54 (.bin .add (.k (.v (.string ⟨#[40]⟩))) (.r 53)), oA 55 (.bin .add (.r 54) (.k (.v (.string ⟨#[32, 111, 114, 32]⟩)))), oL 56 2 (some 3), oA 57 (.fadr 2 (.r 3)), oL 58 57 none, oA 59 (.iasl 3 (.r 58) (kI 1)), oL 60 59 (some 3), oA 61 (.call 202 [.r 56, .r 60]), oA 62 (.bin .add (.r 55) (.r 61)), oA 63 (.bin .add (.r 62) (.k (.v (.string ⟨#[41]⟩)))), oA 4 (kM 63)] [(8, 5), (10, 5), (12, 5)]) .ret) (.seq (.reg [oA 65 (.bin .eql (.r 6) (kI 6)), oA 64 (kM 65)]) (.cond (.r 64) (.seq (.draw [oL 66 2 (some 3), oA 67 (.fadr 1 (.r 3)), oL 68 67 none, oA 69 (.call 203 [.r 66, .r 68]), oA 70 (.bin .add (.k (.v (.string ⟨#[115, 111, 109, 101, 32]⟩))) (.r 69)), oA 71 (.bin .add (.r 70) (.k (.v (.string ⟨#[32]⟩)))), oL 72 2 (some 3), oA 73 (.fadr 2 (.r 3)), oL 74 73 none, oA 75 (.iasl 3 (.r 74) (kI 0)), oL 76 75 (some 3), oA 77 (.call 202 [.r 72, .r 76]), oA 78 (.bin .add (.r 71) (.r 77)), oA 4 (kM 78)] [(6, 3), (8, 3), (10, 3)]) .ret) .skip)))))))))))))))) (.seq (.draw [oL 79 2 (some 3), oA 80 (.fadr 1 (.r 3)), oL 81 80 none, oA 82 (.call 203 [.r 79, .r 81]), oA 83 (.bin .add (.k (.v (.string ⟨#[97, 108, 108, 32]⟩))) (.r 82)), oA 84 (.bin .add (.r 83) (.k (.v (.string ⟨#[32]⟩)))), oL 85 2 (some 3), oA 86 (.fadr 2 (.r 3)), oL 87 86 none, oA 88 (.iasl 3 (.r 87) (kI 0)), oL 89 88 (some 3), oA 90 (.call 202 [.r 85, .r 89]), oA 91 (.bin .add (.r 84) (.r 90)), oA 4 (kM 91)] [(6, 3), (8, 3), (10, 3)]) .ret)))⟩
theorem c202 : cfunc Tryz.prog 202 = some ir202 := by kernel_rfl
theorem k202 : okIR (max 2 ir202.n) ir202.ir = true := by decide +kernel
noncomputable def ir61 : IFn := ⟨21, [⟨4, none⟩], (.seq (.reg [oA 2 (.box 24 (.r 0)), oA 4 (.mov (.k (.v (.string ⟨#[]⟩))))]) (.seq (.seq (.reg [oA 5 (kM 1), oA 6 (.bin .rem (.r 5) (kI 2)), oA 7 (.bin .eql (.r 6) (kI 1))]) (.cond (.r 7) (.seq (.reg [oA 8 (.fadr 1 (.r 2)), oL 9 8 none, oA 10 (kM 1), oA 11 (.bin .quo (.r 10) (kI 2)), oA 12 (.iasl 1 (.r 9) (.r 11)), oL 13 12 none, oA 14 (.bin .add (.r 13) (.k (.v (.string ⟨#[45]⟩)))), oA 4 (kM 14)]) .ret) .skip)) (.seq (.reg [oA 15 (.fadr 1 (.r 2)), oL 16 15 none, oA 17 (kM 1), oA 18 (.bin .quo (.r 17) (kI 2)), oA 19 (.iasl 1 (.r 16) (.r 18)), oL 20 19 none, oA 4 (kM 20)]) .ret)))⟩
theorem c61 : cfunc Tryz.prog 61 = some ir61 := by kernel_rfl
theorem k61 : okIR (max 2 ir61.n) ir61.ir = true := by decide +kernel
theorem s_rRole (n : Nms) (hb : ∀ s ∈ n.rs, s.size ≤ 100) (r : Int) (h0 : 0 ≤ r) (h1 : r < 2 * n.rs.length) (hl : n.rs.length < 4611686018427387904) (j : JH) : JC Tryz.prog G 61 [.agg n.enc, I64 r] j (RET (STR (roleS n r)) j) := by
 refine JC.run hmix c61 (by exact k61) ?_
 (try simp only[↓jr,jw,seval,ir61])
 have hq : 0 ≤ r.tdiv 2 ∧ r.tdiv 2 < n.rs.length ∧ (r.tdiv 2).toNat < n.rs.length := by rw [Int.tdiv_eq_ediv_of_nonneg h0]; omega
 obtain ⟨s, l, hd⟩ : ∃ c_ l_, List.drop (r.tdiv 2).toNat n.rs = c_ :: l_ := ⟨_, _, List.drop_eq_getElem_cons hq.2.2⟩
 have hn : nthS n.rs (r.tdiv 2).toNat = s := by unfold nthS; rw [← List.head?_drop, hd]; rfl
 have hsz := hb s (List.mem_of_mem_drop (hd ▸ List.mem_cons_self))
 refine wq.intro (fun h => ?_) (fun h => ?_)
 ·(try simp only[↓jr,jw,seval])
  refine wc.intro (by unfold R64; omega) ?_
  (try simp only[↓jr,jw,seval])
  refine wc.intro hq ?_
  (try simp only[↓jr,jw,seval,hd])
  refine wc.intro (by rw [show (⟨#[45]⟩ : ByteArray).size = 1 from rfl]; omega) ?_
  (try simp only[↓jr,jw,seval])
  refine JFIN.rb ?_
  unfold roleS; rw [if_pos h, hn]; exact SubB.v
 ·(try simp only[↓jr,jw,seval])
  refine wc.intro (by unfold R64; omega) ?_
  (try simp only[↓jr,jw,seval])
  refine wc.intro hq ?_
  (try simp only[↓jr,jw,seval,hd])
  refine JFIN.rb ?_
  unfold roleS; rw [if_neg h, hn]; exact SubB.v
theorem s_cRole (n : Nms) (hb : ∀ s ∈ n.rs, s.size ≤ 100) (r : Int) (h0 : 0 ≤ r) (h1 : r < 2 * n.rs.length) (hl : n.rs.length < 4611686018427387904) (j : JH) : JC Tryz.prog G 203 [.agg n.enc, I64 r] j (RET (STR (roleS n r)) j) := by
 refine JC.run hmix c203 (by exact k203) ?_
 (try simp only[↓jr,jw,seval,ir203])
 have hq : 0 ≤ r.tdiv 2 ∧ r.tdiv 2 < n.rs.length ∧ (r.tdiv 2).toNat < n.rs.length := by rw [Int.tdiv_eq_ediv_of_nonneg h0]; omega
 obtain ⟨s, l, hd⟩ : ∃ c_ l_, List.drop (r.tdiv 2).toNat n.rs = c_ :: l_ := ⟨_, _, List.drop_eq_getElem_cons hq.2.2⟩
 have hn : nthS n.rs (r.tdiv 2).toNat = s := by unfold nthS; rw [← List.head?_drop, hd]; rfl
 have hsz := hb s (List.mem_of_mem_drop (hd ▸ List.mem_cons_self))
 refine wq.intro (fun h => ?_) (fun h => ?_)
 ·(try simp only[↓jr,jw,seval])
  refine wc.intro (by unfold R64; omega) ?_
  (try simp only[↓jr,jw,seval])
  refine wc.intro hq ?_
  (try simp only[↓jr,jw,seval,hd])
  refine wc.intro (by rw [show (⟨#[45]⟩ : ByteArray).size = 1 from rfl]; omega) ?_
  (try simp only[↓jr,jw,seval])
  refine JFIN.rb ?_
  unfold roleS; rw [if_pos h, hn]; exact SubB.v
 ·(try simp only[↓jr,jw,seval])
  refine wc.intro (by unfold R64; omega) ?_
  (try simp only[↓jr,jw,seval])
  refine wc.intro hq ?_
  (try simp only[↓jr,jw,seval,hd])
  refine JFIN.rb ?_
  unfold roleS; rw [if_neg h, hn]; exact SubB.v
theorem cut2 {c d : Con} : icut (some 3) (c.enc ++ d.enc) 3 = some (.agg d.enc) := by
 unfold icut
 have h1 : (c.enc ++ d.enc).drop 3 = d.enc := by rw [← Con.len c]; simp
 have h2 : d.enc.take 3 = d.enc := List.take_of_length_le (by rw [Con.len]; omega)
 simp [h1, h2, List.length_append, Con.len]
theorem lz1 {a : UInt8} : (⟨#[a]⟩ : ByteArray).size = 1 := rfl
theorem lz3 {a b c : UInt8} : (⟨#[a, b, c]⟩ : ByteArray).size = 3 := rfl
theorem lz4 {a b c d : UInt8} : (⟨#[a, b, c, d]⟩ : ByteArray).size = 4 := rfl
theorem lz5 {a b c d e : UInt8} : (⟨#[a, b, c, d, e]⟩ : ByteArray).size = 5 := rfl
theorem nthS_size {l : List ByteArray} {k i : Nat} (h : ∀ s ∈ l, s.size ≤ k) : (nthS l i).size ≤ k := by
 unfold nthS
 cases q : l[i]? with
 | none => simp; exact Nat.zero_le _
 | some s => exact h s (List.mem_of_getElem? q)
theorem roleS_size {m : Nms} {r : Int} (h : ∀ s ∈ m.rs, s.size ≤ 100) : (roleS m r).size ≤ 101 := by
 unfold roleS
 have := nthS_size (i := (r.tdiv 2).toNat) h
 split
 ·rw [ba_size_append, lz1]; omega
 ·omega
theorem strC_size {m : Nms} (h1 : ∀ s ∈ m.cs, s.size ≤ 100) (h2 : ∀ s ∈ m.rs, s.size ≤ 100) : ∀ c : Con, (strC m c).size ≤ 110 * c.nodes := by
 intro c
 induction c using Con.ind with
 | h o n l ih =>
 have hn := nthS_size (i := n.toNat) h1
 have hr := roleS_size (r := n) h2
 have hz : (⟨#[]⟩ : ByteArray).size = 0 := rfl
 have hH : (strH m l).size ≤ 110 * Con.nodesL l := by
  cases l with
  | nil => simp only [strH, hz]; omega
  | cons c r => simp only [strH, Con.nodesL]; have := ih c (by simp); omega
 have hT : (strT m l).size + (strH m l).size ≤ 110 * Con.nodesL l := by
  cases l with
  | nil => simp only [strT, strH, hz]; omega
  | cons c r =>
   cases r with
   | nil => simp only [strT, strH, Con.nodesL, hz]; have := ih c (by simp); omega
   | cons d r => simp only [strT, strH, Con.nodesL]; have := ih c (by simp); have := ih d (by simp); omega
 simp only [strC, Con.nodes]
 repeat' split
 all_goals (try simp only [ba_size_append, lz1, lz3, lz4, lz5]); omega
noncomputable def ir60 : IFn := ⟨92, [⟨4, none⟩], (.seq (.reg [oA 2 (.box 24 (.r 0)), oA 3 (.box 71 (.r 1)), oA 4 (.mov (.k (.v (.string ⟨#[]⟩))))]) (.seq (.seq (.reg [oA 5 (.fadr 0 (.r 3)), oL 6 5 none]) (.block 0 (.seq (.reg [oA 8 (.bin .eql (.r 6) (kI 0)), oA 7 (kM 8)]) (.cond (.r 7) (.seq (.reg [oA 9 (.fadr 0 (.r 2)), oL 10 9 none, oA 11 (.fadr 1 (.r 3)), oL 12 11 none, oA 13 (.iasl 1 (.r 10) (.r 12)), oL 14 13 none, oA 4 (kM 14)]) .ret) (.seq (.reg [oA 16 (.bin .eql (.r 6) (kI 1)), oA 15 (kM 16)]) (.cond (.r 15) (.seq (.reg [oA 4 (.mov (.k (.v (.string ⟨#[116, 111, 112]⟩))))]) .ret) (.seq (.reg [oA 18 (.bin .eql (.r 6) (kI 2)), oA 17 (kM 18)]) (.cond (.r 17) (.seq (.reg [oA 4 (.mov (.k (.v (.string ⟨#[98, 111, 116]⟩))))]) .ret) (.seq (.reg [oA 20 (.bin .eql (.r 6) (kI 3)), oA 19 (kM 20)]) (.cond (.r 19) (.seq (.draw [oL 21 2 (some 3), oA 22 (.fadr 2 (.r 3)), oL 23 22 none, oA 24 (.iasl 3 (.r 23) (kI 0)), oL 25 24 (some 3), oA 26 (.call 60 [.r 21, .r 25]), oA 27 (.bin .add (.k (.v (.string ⟨#[110, 111, 116, 32]⟩))) (.r 26)), oA 4 (kM 27)] []) .ret) (.seq (.reg [oA 29 (.bin .eql (.r 6) (kI 4)), oA 28 (kM 29)]) (.cond (.r 28) (.seq (.draw [oL 30 2 (some 3), oA 31 (.fadr 2 (.r 3)), oL 32 31 none, oA 33 (.iasl 3 (.r 32) (kI 0)), oL 34 33 (some 3), oA 35 (.call 60 [.r 30, .r 34]), oA 36 (.bin .add (.k (.v (.string ⟨#[40]⟩))) (.r 35)), oA 37 (.bin .add (.r 36) (.k (.v (.string ⟨#[32, 97, 110, 100, 32]⟩)))), oL 38 2 (some 3), oA 39 (.fadr 2 (.r 3)), oL 40 39 none, oA 41 (.iasl 3 (.r 40) (kI 1)), oL 42 41 (some 3), oA 43 (.call 60 [.r 38, .r 42]), oA 44 (.bin .add (.r 37) (.r 43)), oA 45 (.bin .add (.r 44) (.k (.v (.string ⟨#[41]⟩)))), oA 4 (kM 45)] [(8, 5), (10, 5), (12, 5)]) .ret) (.seq (.reg [oA 47 (.bin .eql (.r 6) (kI 5)), oA 46 (kM 47)]) (.cond (.r 46) (.seq (.draw [oL 48 2 (some 3), oA 49 (.fadr 2 (.r 3)), oL 50 49 none, oA 51 (.iasl 3 (.r 50) (kI 0)), oL 52 51 (some 3), oA 53 (.call 60 [.r 48, .r 52]), oA 54 (.bin .add (.k (.v (.string ⟨#[40]⟩))) (.r 53)), oA 55 (.bin .add (.r 54) (.k (.v (.string ⟨#[32, 111, 114, 32]⟩)))), oL 56 2 (some 3), oA 57 (.fadr 2 (.r 3)), oL 58 57 none, oA 59 (.iasl 3 (.r 58) (kI 1)), oL 60 59 (some 3), oA 61 (.call 60 [.r 56, .r 60]), oA 62 (.bin .add (.r 55) (.r 61)), oA 63 (.bin .add (.r 62) (.k (.v (.string ⟨#[41]⟩)))), oA 4 (kM 63)] [(8, 5), (10, 5), (12, 5)]) .ret) (.seq (.reg [oA 65 (.bin .eql (.r 6) (kI 6)), oA 64 (kM 65)]) (.cond (.r 64) (.seq (.draw [oL 66 2 (some 3), oA 67 (.fadr 1 (.r 3)), oL 68 67 none, oA 69 (.call 61 [.r 66, .r 68]), oA 70 (.bin .add (.k (.v (.string ⟨#[115, 111, 109, 101, 32]⟩))) (.r 69)), oA 71 (.bin .add (.r 70) (.k (.v (.string ⟨#[32]⟩)))), oL 72 2 (some 3), oA 73 (.fadr 2 (.r 3)), oL 74 73 none, oA 75 (.iasl 3 (.r 74) (kI 0)), oL 76 75 (some 3), oA 77 (.call 60 [.r 72, .r 76]), oA 78 (.bin .add (.r 71) (.r 77)), oA 4 (kM 78)] [(6, 3), (8, 3), (10, 3)]) .ret) .skip)))))))))))))))) (.seq (.draw [oL 79 2 (some 3), oA 80 (.fadr 1 (.r 3)), oL 81 80 none, oA 82 (.call 61 [.r 79, .r 81]), oA 83 (.bin .add (.k (.v (.string ⟨#[97, 108, 108, 32]⟩))) (.r 82)), oA 84 (.bin .add (.r 83) (.k (.v (.string ⟨#[32]⟩)))), oL 85 2 (some 3), oA 86 (.fadr 2 (.r 3)), oL 87 86 none, oA 88 (.iasl 3 (.r 87) (kI 0)), oL 89 88 (some 3), oA 90 (.call 60 [.r 85, .r 89]), oA 91 (.bin .add (.r 84) (.r 90)), oA 4 (kM 91)] [(6, 3), (8, 3), (10, 3)]) .ret)))⟩
theorem c60 : cfunc Tryz.prog 60 = some ir60 := by kernel_rfl
theorem k60 : okIR (max 2 ir60.n) ir60.ir = true := by decide +kernel
theorem s_rString (nc nr : Nat) (n : Nms) (hcs : n.cs.length = nc) (hrs : n.rs.length = nr) (h1 : ∀ s ∈ n.cs, s.size ≤ 100) (h2 : ∀ s ∈ n.rs, s.size ≤ 100) (hl1 : n.cs.length < 4611686018427387904) (hl2 : n.rs.length < 4611686018427387904) :
  ∀ (c : Con) (j : JH), c.ok → shaped nc nr c = true → c.nodes ≤ 1000000 → JC Tryz.prog G 60 [.agg n.enc, .agg c.enc] j (RET (STR (strC n c)) j) := by
 intro c
 induction c using Con.ind with
 | h o k l ih =>
 intro j hc hs hm
 simp only [Con.ok] at hc
 obtain ⟨hc1, hc2, hc3, hc4⟩ := hc
 simp only [Con.nodes] at hm
 obtain ⟨⟨hs1, hs3, hs4, hs5, hs6⟩, hs2⟩ : SH nc nr o k l.length ∧ shapedL nc nr l = true := by rw [← shaped_mk]; exact hs
 have har := arity_in hs1
 have one : o = 3 ∨ o = 6 ∨ o = 7 → ∃ c, l = [c] := by
  intro h
  have : l.length = 1 := by rcases h with rfl | rfl | rfl <;> (simp [arity] at hs1; omega)
  cases l with
  | nil => simp at this
  | cons c r => cases r with | nil => exact ⟨c, rfl⟩ | cons _ _ => simp at this
 have two : o = 4 ∨ o = 5 → ∃ c d, l = [c, d] := by
  intro h
  have : l.length = 2 := by rcases h with rfl | rfl <;> (simp [arity] at hs1; omega)
  cases l with
  | nil => simp at this
  | cons c r => cases r with | nil => simp at this | cons d r => cases r with | nil => exact ⟨c, d, rfl⟩ | cons _ _ => simp at this
 have szc : ∀ c ∈ l, (strC n c).size ≤ 110000000 := fun c hc => by have := strC_size h1 h2 c; have := Con.nodesL_mem hc; omega
 have szr := roleS_size (m := n) (r := k) h2
 refine JC.run hmix c60 (by exact k60) ?_
 (try simp only[↓jr,jw,seval,ir60])
 refine wq.intro (fun g0 => ?_) (fun g0 => ?_)
 ·have hq : 0 ≤ k ∧ k < n.cs.length ∧ k.toNat < n.cs.length := by have := hs4 g0; omega
  obtain ⟨s, r, hd⟩ : ∃ c_ l_, List.drop k.toNat n.cs = c_ :: l_ := ⟨_, _, List.drop_eq_getElem_cons hq.2.2⟩
  have hn : nthS n.cs k.toNat = s := by unfold nthS; rw [← List.head?_drop, hd]; rfl
  (try simp only[↓jr,jw,seval])
  refine wc.intro hq ?_
  (try simp only[↓jr,jw,seval,hd])
  refine JFIN.rb ?_
  simp only [strC, if_pos g0, hn]; exact SubB.v
 (try simp only[↓jr,jw,seval])
 refine wq.intro (fun g1 => ?_) (fun g1 => ?_)
 ·(try simp only[↓jr,jw,seval])
  refine JFIN.rb ?_
  simp only [strC, if_neg g0, if_pos g1]; exact SubB.v
 (try simp only[↓jr,jw,seval])
 refine wq.intro (fun g2 => ?_) (fun g2 => ?_)
 ·(try simp only[↓jr,jw,seval])
  refine JFIN.rb ?_
  simp only [strC, if_neg g0, if_neg g1, if_pos g2]; exact SubB.v
 (try simp only[↓jr,jw,seval])
 refine wq.intro (fun g3 => ?_) (fun g3 => ?_)
 ·obtain ⟨c, rfl⟩ := one (.inl g3)
  have sz1 := szc c (by simp)
  (try simp only[↓jr,jw,seval,List.drop_zero])
  refine JDC.use (ih c (by simp) _ (Con.oks_mem hc4 (by simp)) (shapedL_mem hs2 (by simp)) (by simp only [Con.nodesL] at hm; omega)) ?_
  (try simp only[↓jr,jw,seval])
  refine wc.intro (by simp only [ba_size_append, lz1, lz3, lz4, lz5]; omega) ?_
  (try simp only[↓jr,jw,seval])
  refine JDRAW.oc (by (try simp only[↓jr,jw,seval,jq]) <;> exact orq) ?_; (try simp only[↓jr,jw,seval])
  refine JFIN.rb ?_
  simp only [strC, if_neg g0, if_neg g1, if_neg g2, if_pos g3, strH]; exact SubB.v
 (try simp only[↓jr,jw,seval])
 refine wq.intro (fun g4 => ?_) (fun g4 => ?_)
 ·obtain ⟨c, d, rfl⟩ := two (.inl g4)
  have sz1 := szc c (by simp)
  have sz2 := szc d (by simp)
  (try simp only[↓jr,jw,seval,List.drop_zero])
  refine JDC.use (ih c (by simp) _ (Con.oks_mem hc4 (by simp)) (shapedL_mem hs2 (by simp)) (by simp only [Con.nodesL] at hm; omega)) ?_
  (try simp only[↓jr,jw,seval])
  refine wc.intro (by simp only [ba_size_append, lz1, lz3, lz4, lz5]; omega) ?_
  (try simp only[↓jr,jw,seval])
  refine wc.intro (by simp only [ba_size_append, lz1, lz3, lz4, lz5]; omega) ?_
  (try simp only[↓jr,jw,seval,cut2])
  refine JDC.use (ih d (by simp) _ (Con.oks_mem hc4 (by simp)) (shapedL_mem hs2 (by simp)) (by simp only [Con.nodesL] at hm; omega)) ?_
  (try simp only[↓jr,jw,seval])
  refine wc.intro (by simp only [ba_size_append, lz1, lz3, lz4, lz5]; omega) ?_
  (try simp only[↓jr,jw,seval])
  refine wc.intro (by simp only [ba_size_append, lz1, lz3, lz4, lz5]; omega) ?_
  (try simp only[↓jr,jw,seval])
  refine JDRAW.oc (by (try simp only[↓jr,jw,seval,jq]) <;> exact orq) ?_; (try simp only[↓jr,jw,seval])
  refine JFIN.rb ?_
  simp only [strC, if_neg g0, if_neg g1, if_neg g2, if_neg g3, if_pos g4, strH, strT]; exact SubB.v
 (try simp only[↓jr,jw,seval])
 refine wq.intro (fun g5 => ?_) (fun g5 => ?_)
 ·obtain ⟨c, d, rfl⟩ := two (.inr g5)
  have sz1 := szc c (by simp)
  have sz2 := szc d (by simp)
  (try simp only[↓jr,jw,seval,List.drop_zero])
  refine JDC.use (ih c (by simp) _ (Con.oks_mem hc4 (by simp)) (shapedL_mem hs2 (by simp)) (by simp only [Con.nodesL] at hm; omega)) ?_
  (try simp only[↓jr,jw,seval])
  refine wc.intro (by simp only [ba_size_append, lz1, lz3, lz4, lz5]; omega) ?_
  (try simp only[↓jr,jw,seval])
  refine wc.intro (by simp only [ba_size_append, lz1, lz3, lz4, lz5]; omega) ?_
  (try simp only[↓jr,jw,seval,cut2])
  refine JDC.use (ih d (by simp) _ (Con.oks_mem hc4 (by simp)) (shapedL_mem hs2 (by simp)) (by simp only [Con.nodesL] at hm; omega)) ?_
  (try simp only[↓jr,jw,seval])
  refine wc.intro (by simp only [ba_size_append, lz1, lz3, lz4, lz5]; omega) ?_
  (try simp only[↓jr,jw,seval])
  refine wc.intro (by simp only [ba_size_append, lz1, lz3, lz4, lz5]; omega) ?_
  (try simp only[↓jr,jw,seval])
  refine JDRAW.oc (by (try simp only[↓jr,jw,seval,jq]) <;> exact orq) ?_; (try simp only[↓jr,jw,seval])
  refine JFIN.rb ?_
  simp only [strC, if_neg g0, if_neg g1, if_neg g2, if_neg g3, if_neg g4, if_pos g5, strH, strT]; exact SubB.v
 (try simp only[↓jr,jw,seval])
 refine wq.intro (fun g6 => ?_) (fun g6 => ?_)
 all_goals
  obtain ⟨c, rfl⟩ := one (by omega)
  have sz1 := szc c (by simp)
  (try simp only[↓jr,jw,seval,List.drop_zero])
  refine JDC.use (s_rRole n h2 k hs3 (by rw [hrs]; exact hs5 (by omega) (by first | (rw [g6]; rfl) | (rw [show o = 7 by omega]; rfl))) hl2 _) ?_
  (try simp only[↓jr,jw,seval])
  refine wc.intro (by simp only [ba_size_append, lz1, lz3, lz4, lz5]; omega) ?_
  (try simp only[↓jr,jw,seval])
  refine wc.intro (by simp only [ba_size_append, lz1, lz3, lz4, lz5]; omega) ?_
  (try simp only[↓jr,jw,seval,List.drop_zero])
  refine JDC.use (ih c (by simp) _ (Con.oks_mem hc4 (by simp)) (shapedL_mem hs2 (by simp)) (by simp only [Con.nodesL] at hm; omega)) ?_
  (try simp only[↓jr,jw,seval])
  refine wc.intro (by simp only [ba_size_append, lz1, lz3, lz4, lz5]; omega) ?_
  (try simp only[↓jr,jw,seval])
  refine JDRAW.oc (by (try simp only[↓jr,jw,seval,jq]) <;> exact orq) ?_; (try simp only[↓jr,jw,seval])
  refine JFIN.rb ?_
  simp only [strC, if_neg g0, if_neg g1, if_neg g2, if_neg g3, if_neg g4, if_neg g5, g6, if_true, if_false, strH]; exact SubB.v
theorem s_Text (nc nr : Nat) (n : Nms) (hcs : n.cs.length = nc) (hrs : n.rs.length = nr) (h1 : ∀ s ∈ n.cs, s.size ≤ 100) (h2 : ∀ s ∈ n.rs, s.size ≤ 100) (hl1 : n.cs.length < 4611686018427387904) (hl2 : n.rs.length < 4611686018427387904) :
  ∀ (c : Con) (j : JH), c.ok → shaped nc nr c = true → c.nodes ≤ 1000000 → JC Tryz.prog G 202 [.agg n.enc, .agg c.enc] j (RET (STR (strC n c)) j) := by
 intro c
 induction c using Con.ind with
 | h o k l ih =>
 intro j hc hs hm
 simp only [Con.ok] at hc
 obtain ⟨hc1, hc2, hc3, hc4⟩ := hc
 simp only [Con.nodes] at hm
 obtain ⟨⟨hs1, hs3, hs4, hs5, hs6⟩, hs2⟩ : SH nc nr o k l.length ∧ shapedL nc nr l = true := by rw [← shaped_mk]; exact hs
 have har := arity_in hs1
 have one : o = 3 ∨ o = 6 ∨ o = 7 → ∃ c, l = [c] := by
  intro h
  have : l.length = 1 := by rcases h with rfl | rfl | rfl <;> (simp [arity] at hs1; omega)
  cases l with
  | nil => simp at this
  | cons c r => cases r with | nil => exact ⟨c, rfl⟩ | cons _ _ => simp at this
 have two : o = 4 ∨ o = 5 → ∃ c d, l = [c, d] := by
  intro h
  have : l.length = 2 := by rcases h with rfl | rfl <;> (simp [arity] at hs1; omega)
  cases l with
  | nil => simp at this
  | cons c r => cases r with | nil => simp at this | cons d r => cases r with | nil => exact ⟨c, d, rfl⟩ | cons _ _ => simp at this
 have szc : ∀ c ∈ l, (strC n c).size ≤ 110000000 := fun c hc => by have := strC_size h1 h2 c; have := Con.nodesL_mem hc; omega
 have szr := roleS_size (m := n) (r := k) h2
 refine JC.run hmix c202 (by exact k202) ?_
 (try simp only[↓jr,jw,seval,ir202])
 refine wq.intro (fun g0 => ?_) (fun g0 => ?_)
 ·have hq : 0 ≤ k ∧ k < n.cs.length ∧ k.toNat < n.cs.length := by have := hs4 g0; omega
  obtain ⟨s, r, hd⟩ : ∃ c_ l_, List.drop k.toNat n.cs = c_ :: l_ := ⟨_, _, List.drop_eq_getElem_cons hq.2.2⟩
  have hn : nthS n.cs k.toNat = s := by unfold nthS; rw [← List.head?_drop, hd]; rfl
  (try simp only[↓jr,jw,seval])
  refine wc.intro hq ?_
  (try simp only[↓jr,jw,seval,hd])
  refine JFIN.rb ?_
  simp only [strC, if_pos g0, hn]; exact SubB.v
 (try simp only[↓jr,jw,seval])
 refine wq.intro (fun g1 => ?_) (fun g1 => ?_)
 ·(try simp only[↓jr,jw,seval])
  refine JFIN.rb ?_
  simp only [strC, if_neg g0, if_pos g1]; exact SubB.v
 (try simp only[↓jr,jw,seval])
 refine wq.intro (fun g2 => ?_) (fun g2 => ?_)
 ·(try simp only[↓jr,jw,seval])
  refine JFIN.rb ?_
  simp only [strC, if_neg g0, if_neg g1, if_pos g2]; exact SubB.v
 (try simp only[↓jr,jw,seval])
 refine wq.intro (fun g3 => ?_) (fun g3 => ?_)
 ·obtain ⟨c, rfl⟩ := one (.inl g3)
  have sz1 := szc c (by simp)
  (try simp only[↓jr,jw,seval,List.drop_zero])
  refine JDC.use (ih c (by simp) _ (Con.oks_mem hc4 (by simp)) (shapedL_mem hs2 (by simp)) (by simp only [Con.nodesL] at hm; omega)) ?_
  (try simp only[↓jr,jw,seval])
  refine wc.intro (by simp only [ba_size_append, lz1, lz3, lz4, lz5]; omega) ?_
  (try simp only[↓jr,jw,seval])
  refine JDRAW.oc (by (try simp only[↓jr,jw,seval,jq]) <;> exact orq) ?_; (try simp only[↓jr,jw,seval])
  refine JFIN.rb ?_
  simp only [strC, if_neg g0, if_neg g1, if_neg g2, if_pos g3, strH]; exact SubB.v
 (try simp only[↓jr,jw,seval])
 refine wq.intro (fun g4 => ?_) (fun g4 => ?_)
 ·obtain ⟨c, d, rfl⟩ := two (.inl g4)
  have sz1 := szc c (by simp)
  have sz2 := szc d (by simp)
  (try simp only[↓jr,jw,seval,List.drop_zero])
  refine JDC.use (ih c (by simp) _ (Con.oks_mem hc4 (by simp)) (shapedL_mem hs2 (by simp)) (by simp only [Con.nodesL] at hm; omega)) ?_
  (try simp only[↓jr,jw,seval])
  refine wc.intro (by simp only [ba_size_append, lz1, lz3, lz4, lz5]; omega) ?_
  (try simp only[↓jr,jw,seval])
  refine wc.intro (by simp only [ba_size_append, lz1, lz3, lz4, lz5]; omega) ?_
  (try simp only[↓jr,jw,seval,cut2])
  refine JDC.use (ih d (by simp) _ (Con.oks_mem hc4 (by simp)) (shapedL_mem hs2 (by simp)) (by simp only [Con.nodesL] at hm; omega)) ?_
  (try simp only[↓jr,jw,seval])
  refine wc.intro (by simp only [ba_size_append, lz1, lz3, lz4, lz5]; omega) ?_
  (try simp only[↓jr,jw,seval])
  refine wc.intro (by simp only [ba_size_append, lz1, lz3, lz4, lz5]; omega) ?_
  (try simp only[↓jr,jw,seval])
  refine JDRAW.oc (by (try simp only[↓jr,jw,seval,jq]) <;> exact orq) ?_; (try simp only[↓jr,jw,seval])
  refine JFIN.rb ?_
  simp only [strC, if_neg g0, if_neg g1, if_neg g2, if_neg g3, if_pos g4, strH, strT]; exact SubB.v
 (try simp only[↓jr,jw,seval])
 refine wq.intro (fun g5 => ?_) (fun g5 => ?_)
 ·obtain ⟨c, d, rfl⟩ := two (.inr g5)
  have sz1 := szc c (by simp)
  have sz2 := szc d (by simp)
  (try simp only[↓jr,jw,seval,List.drop_zero])
  refine JDC.use (ih c (by simp) _ (Con.oks_mem hc4 (by simp)) (shapedL_mem hs2 (by simp)) (by simp only [Con.nodesL] at hm; omega)) ?_
  (try simp only[↓jr,jw,seval])
  refine wc.intro (by simp only [ba_size_append, lz1, lz3, lz4, lz5]; omega) ?_
  (try simp only[↓jr,jw,seval])
  refine wc.intro (by simp only [ba_size_append, lz1, lz3, lz4, lz5]; omega) ?_
  (try simp only[↓jr,jw,seval,cut2])
  refine JDC.use (ih d (by simp) _ (Con.oks_mem hc4 (by simp)) (shapedL_mem hs2 (by simp)) (by simp only [Con.nodesL] at hm; omega)) ?_
  (try simp only[↓jr,jw,seval])
  refine wc.intro (by simp only [ba_size_append, lz1, lz3, lz4, lz5]; omega) ?_
  (try simp only[↓jr,jw,seval])
  refine wc.intro (by simp only [ba_size_append, lz1, lz3, lz4, lz5]; omega) ?_
  (try simp only[↓jr,jw,seval])
  refine JDRAW.oc (by (try simp only[↓jr,jw,seval,jq]) <;> exact orq) ?_; (try simp only[↓jr,jw,seval])
  refine JFIN.rb ?_
  simp only [strC, if_neg g0, if_neg g1, if_neg g2, if_neg g3, if_neg g4, if_pos g5, strH, strT]; exact SubB.v
 (try simp only[↓jr,jw,seval])
 refine wq.intro (fun g6 => ?_) (fun g6 => ?_)
 all_goals
  obtain ⟨c, rfl⟩ := one (by omega)
  have sz1 := szc c (by simp)
  (try simp only[↓jr,jw,seval,List.drop_zero])
  refine JDC.use (s_cRole n h2 k hs3 (by rw [hrs]; exact hs5 (by omega) (by first | (rw [g6]; rfl) | (rw [show o = 7 by omega]; rfl))) hl2 _) ?_
  (try simp only[↓jr,jw,seval])
  refine wc.intro (by simp only [ba_size_append, lz1, lz3, lz4, lz5]; omega) ?_
  (try simp only[↓jr,jw,seval])
  refine wc.intro (by simp only [ba_size_append, lz1, lz3, lz4, lz5]; omega) ?_
  (try simp only[↓jr,jw,seval,List.drop_zero])
  refine JDC.use (ih c (by simp) _ (Con.oks_mem hc4 (by simp)) (shapedL_mem hs2 (by simp)) (by simp only [Con.nodesL] at hm; omega)) ?_
  (try simp only[↓jr,jw,seval])
  refine wc.intro (by simp only [ba_size_append, lz1, lz3, lz4, lz5]; omega) ?_
  (try simp only[↓jr,jw,seval])
  refine JDRAW.oc (by (try simp only[↓jr,jw,seval,jq]) <;> exact orq) ?_; (try simp only[↓jr,jw,seval])
  refine JFIN.rb ?_
  simp only [strC, if_neg g0, if_neg g1, if_neg g2, if_neg g3, if_neg g4, if_neg g5, g6, if_true, if_false, strH]; exact SubB.v
end
end Go.Proofs.YtcjlpklgnknpgaaGreatDoor.Pg
