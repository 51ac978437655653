/-
  Strings of concepts.
-/
import Derived.Test.YtcajjicdbphkpaaGreatDoorQd
set_option linter.unusedVariables false
set_option linter.unusedSimpArgs false
set_option maxRecDepth 100000
set_option maxHeartbeats 8000000
namespace Go.Proofs.YtcajjicdbphkpaaGreatDoor.Pg
open Go
def litS (l : List UInt8) : ByteArray := ⟨l.toArray⟩
def nthS (l : List ByteArray) (i : Nat) : ByteArray := (l[i]?).getD ⟨#[]⟩
def roleS (m : Nms) (r : Int) : ByteArray := if r.tmod 2 = 1 then nthS m.rs (r.tdiv 2).toNat ++ ⟨#[45]⟩ else nthS m.rs (r.tdiv 2).toNat
mutual
def strC (m : Nms) : Con → ByteArray
  | .mk o n l => if o = 0 then nthS m.cs n.toNat else if o = 1 then ⟨#[116, 111, 112]⟩ else if o = 2 then ⟨#[98, 111, 116]⟩ else if o = 3 then ⟨#[110, 111, 116, 32]⟩ ++ strH m l
    else if o = 4 then ⟨#[40]⟩ ++ strH m l ++ ⟨#[32, 97, 110, 100, 32]⟩ ++ strT m l ++ ⟨#[41]⟩
    else if o = 5 then ⟨#[40]⟩ ++ strH m l ++ ⟨#[32, 111, 114, 32]⟩ ++ strT m l ++ ⟨#[41]⟩
    else if o = 6 then ⟨#[115, 111, 109, 101, 32]⟩ ++ roleS m n ++ ⟨#[32]⟩ ++ strH m l
    else ⟨#[97, 108, 108, 32]⟩ ++ roleS m n ++ ⟨#[32]⟩ ++ strH m l
def strH (m : Nms) : List Con → ByteArray
  | [] => ⟨#[]⟩
  | c :: _ => strC m c
def strT (m : Nms) : List Con → ByteArray
  | [] => ⟨#[]⟩
  | _ :: l => strH m l
end
theorem ba_size_append (a b : ByteArray) : (a ++ b).size = a.size + b.size := by
  rw [← bs_len, bs_append, List.length_append, bs_len, bs_len]
section
variable {m : GM} {G : Nat → Option (List AV)}
theorem s_cRole (n : Nms) (hb : ∀ s ∈ n.rs, s.size ≤ 100) (r : Int) (h0 : 0 ≤ r) (h1 : r < 2 * n.rs.length) (hl : n.rs.length < 4611686018427387904) (j : JH) : JC Tryz.prog G 44 [.agg n.enc, I64 r] j (RET (STR (roleS n r)) j) := by
  refine JC.run hmix c44 (by exact k44) ?_
  (try simp only[↓jr,jw,seval,ir44])
  have hq : 0 ≤ r.tdiv 2 ∧ r.tdiv 2 < n.rs.length ∧ (r.tdiv 2).toNat < n.rs.length := by rw [Int.tdiv_eq_ediv_of_nonneg h0]; omega
  obtain ⟨s, l, hd⟩ : ∃ c_ l_, List.drop (r.tdiv 2).toNat n.rs = c_ :: l_ := ⟨_, _, List.drop_eq_getElem_cons hq.2.2⟩
  have hn : nthS n.rs (r.tdiv 2).toNat = s := by unfold nthS; rw [← List.head?_drop, hd]; rfl
  have hsz := hb s (List.mem_of_mem_drop (hd ▸ List.mem_cons_self))
  refine wq.intro (fun h => ?_) (fun h => ?_)
  · (try simp only[↓jr,jw,seval])
    refine wc.intro (by unfold R64; omega) ?_
    (try simp only[↓jr,jw,seval])
    refine wc.intro hq ?_
    (try simp only[↓jr,jw,seval,hd])
    refine wc.intro (by rw [show (⟨#[45]⟩ : ByteArray).size = 1 from rfl]; omega) ?_
    (try simp only[↓jr,jw,seval])
    refine JFIN.rb ?_
    unfold roleS; rw [if_pos h, hn]; exact SubB.v
  · (try simp only[↓jr,jw,seval])
    refine wc.intro (by unfold R64; omega) ?_
    (try simp only[↓jr,jw,seval])
    refine wc.intro hq ?_
    (try simp only[↓jr,jw,seval,hd])
    refine JFIN.rb ?_
    unfold roleS; rw [if_neg h, hn]; exact SubB.v
theorem cut2 {c d : Con} : icut (some 3) (c.enc ++ d.enc) 3 = some (.agg d.enc) := by
  unfold icut
  have h1 : (c.enc ++ d.enc).drop 3 = d.enc := by rw [← Con.len c]; simp
  have h2 : d.enc.take 3 = d.enc := List.take_of_length_le (by rw [Con.len]; omega)
  simp [h1, h2, List.length_append, Con.len]
theorem lz1 {a : UInt8} : (⟨#[a]⟩ : ByteArray).size = 1 := rfl
theorem lz3 {a b c : UInt8} : (⟨#[a, b, c]⟩ : ByteArray).size = 3 := rfl
theorem lz4 {a b c d : UInt8} : (⟨#[a, b, c, d]⟩ : ByteArray).size = 4 := rfl
theorem lz5 {a b c d e : UInt8} : (⟨#[a, b, c, d, e]⟩ : ByteArray).size = 5 := rfl
theorem nthS_size {l : List ByteArray} {k i : Nat} (h : ∀ s ∈ l, s.size ≤ k) : (nthS l i).size ≤ k := by
  unfold nthS
  cases q : l[i]? with
  | none => simp; exact Nat.zero_le _
  | some s => exact h s (List.mem_of_getElem? q)
theorem roleS_size {m : Nms} {r : Int} (h : ∀ s ∈ m.rs, s.size ≤ 100) : (roleS m r).size ≤ 101 := by
  unfold roleS
  have := nthS_size (i := (r.tdiv 2).toNat) h
  split
  · rw [ba_size_append, lz1]; omega
  · omega
theorem strC_size {m : Nms} (h1 : ∀ s ∈ m.cs, s.size ≤ 100) (h2 : ∀ s ∈ m.rs, s.size ≤ 100) : ∀ c : Con, (strC m c).size ≤ 110 * c.nodes := by
  intro c
  induction c using Con.ind with
  | h o n l ih =>
  have hn := nthS_size (i := n.toNat) h1
  have hr := roleS_size (r := n) h2
  have hz : (⟨#[]⟩ : ByteArray).size = 0 := rfl
  have hH : (strH m l).size ≤ 110 * Con.nodesL l := by
    cases l with
    | nil => simp only [strH, hz]; omega
    | cons c r => simp only [strH, Con.nodesL]; have := ih c (by simp); omega
  have hT : (strT m l).size + (strH m l).size ≤ 110 * Con.nodesL l := by
    cases l with
    | nil => simp only [strT, strH, hz]; omega
    | cons c r =>
      cases r with
      | nil => simp only [strT, strH, Con.nodesL, hz]; have := ih c (by simp); omega
      | cons d r => simp only [strT, strH, Con.nodesL]; have := ih c (by simp); have := ih d (by simp); omega
  simp only [strC, Con.nodes]
  repeat' split
  all_goals (try simp only [ba_size_append, lz1, lz3, lz4, lz5]); omega
theorem s_Text (nc nr : Nat) (n : Nms) (hcs : n.cs.length = nc) (hrs : n.rs.length = nr) (h1 : ∀ s ∈ n.cs, s.size ≤ 100) (h2 : ∀ s ∈ n.rs, s.size ≤ 100) (hl1 : n.cs.length < 4611686018427387904) (hl2 : n.rs.length < 4611686018427387904) :
    ∀ (c : Con) (j : JH), c.ok → shaped nc nr c = true → c.nodes ≤ 1000000 → JC Tryz.prog G 21 [.agg n.enc, .agg c.enc] j (RET (STR (strC n c)) j) := by
  intro c
  induction c using Con.ind with
  | h o k l ih =>
  intro j hc hs hm
  simp only [Con.ok] at hc
  obtain ⟨hc1, hc2, hc3, hc4⟩ := hc
  simp only [Con.nodes] at hm
  obtain ⟨⟨hs1, hs3, hs4, hs5, hs6⟩, hs2⟩ : SH nc nr o k l.length ∧ shapedL nc nr l = true := by rw [← shaped_mk]; exact hs
  have har := arity_in hs1
  have one : o = 3 ∨ o = 6 ∨ o = 7 → ∃ c, l = [c] := by
    intro h
    have : l.length = 1 := by rcases h with rfl | rfl | rfl <;> (simp [arity] at hs1; omega)
    cases l with
    | nil => simp at this
    | cons c r => cases r with | nil => exact ⟨c, rfl⟩ | cons _ _ => simp at this
  have two : o = 4 ∨ o = 5 → ∃ c d, l = [c, d] := by
    intro h
    have : l.length = 2 := by rcases h with rfl | rfl <;> (simp [arity] at hs1; omega)
    cases l with
    | nil => simp at this
    | cons c r => cases r with | nil => simp at this | cons d r => cases r with | nil => exact ⟨c, d, rfl⟩ | cons _ _ => simp at this
  have szc : ∀ c ∈ l, (strC n c).size ≤ 110000000 := fun c hc => by have := strC_size h1 h2 c; have := Con.nodesL_mem hc; omega
  have szr := roleS_size (m := n) (r := k) h2
  refine JC.run hmix c21 (by exact k21) ?_
  (try simp only[↓jr,jw,seval,ir21])
  refine wq.intro (fun g0 => ?_) (fun g0 => ?_)
  · have hq : 0 ≤ k ∧ k < n.cs.length ∧ k.toNat < n.cs.length := by have := hs4 g0; omega
    obtain ⟨s, r, hd⟩ : ∃ c_ l_, List.drop k.toNat n.cs = c_ :: l_ := ⟨_, _, List.drop_eq_getElem_cons hq.2.2⟩
    have hn : nthS n.cs k.toNat = s := by unfold nthS; rw [← List.head?_drop, hd]; rfl
    (try simp only[↓jr,jw,seval])
    refine wc.intro hq ?_
    (try simp only[↓jr,jw,seval,hd])
    refine JFIN.rb ?_
    simp only [strC, if_pos g0, hn]; exact SubB.v
  (try simp only[↓jr,jw,seval])
  refine wq.intro (fun g1 => ?_) (fun g1 => ?_)
  · (try simp only[↓jr,jw,seval])
    refine JFIN.rb ?_
    simp only [strC, if_neg g0, if_pos g1]; exact SubB.v
  (try simp only[↓jr,jw,seval])
  refine wq.intro (fun g2 => ?_) (fun g2 => ?_)
  · (try simp only[↓jr,jw,seval])
    refine JFIN.rb ?_
    simp only [strC, if_neg g0, if_neg g1, if_pos g2]; exact SubB.v
  (try simp only[↓jr,jw,seval])
  refine wq.intro (fun g3 => ?_) (fun g3 => ?_)
  · obtain ⟨c, rfl⟩ := one (.inl g3)
    have sz1 := szc c (by simp)
    (try simp only[↓jr,jw,seval,List.drop_zero])
    refine JDC.use (ih c (by simp) _ (Con.oks_mem hc4 (by simp)) (shapedL_mem hs2 (by simp)) (by simp only [Con.nodesL] at hm; omega)) ?_
    (try simp only[↓jr,jw,seval])
    refine wc.intro (by simp only [ba_size_append, lz1, lz3, lz4, lz5]; omega) ?_
    (try simp only[↓jr,jw,seval])
    refine JDRAW.oc (by (try simp only[↓jr,jw,seval,jq]) <;> exact orq) ?_; (try simp only[↓jr,jw,seval])
    refine JFIN.rb ?_
    simp only [strC, if_neg g0, if_neg g1, if_neg g2, if_pos g3, strH]; exact SubB.v
  (try simp only[↓jr,jw,seval])
  refine wq.intro (fun g4 => ?_) (fun g4 => ?_)
  · obtain ⟨c, d, rfl⟩ := two (.inl g4)
    have sz1 := szc c (by simp)
    have sz2 := szc d (by simp)
    (try simp only[↓jr,jw,seval,List.drop_zero])
    refine JDC.use (ih c (by simp) _ (Con.oks_mem hc4 (by simp)) (shapedL_mem hs2 (by simp)) (by simp only [Con.nodesL] at hm; omega)) ?_
    (try simp only[↓jr,jw,seval])
    refine wc.intro (by simp only [ba_size_append, lz1, lz3, lz4, lz5]; omega) ?_
    (try simp only[↓jr,jw,seval])
    refine wc.intro (by simp only [ba_size_append, lz1, lz3, lz4, lz5]; omega) ?_
    (try simp only[↓jr,jw,seval,cut2])
    refine JDC.use (ih d (by simp) _ (Con.oks_mem hc4 (by simp)) (shapedL_mem hs2 (by simp)) (by simp only [Con.nodesL] at hm; omega)) ?_
    (try simp only[↓jr,jw,seval])
    refine wc.intro (by simp only [ba_size_append, lz1, lz3, lz4, lz5]; omega) ?_
    (try simp only[↓jr,jw,seval])
    refine wc.intro (by simp only [ba_size_append, lz1, lz3, lz4, lz5]; omega) ?_
    (try simp only[↓jr,jw,seval])
    refine JDRAW.oc (by (try simp only[↓jr,jw,seval,jq]) <;> exact orq) ?_; (try simp only[↓jr,jw,seval])
    refine JFIN.rb ?_
    simp only [strC, if_neg g0, if_neg g1, if_neg g2, if_neg g3, if_pos g4, strH, strT]; exact SubB.v
  (try simp only[↓jr,jw,seval])
  refine wq.intro (fun g5 => ?_) (fun g5 => ?_)
  · obtain ⟨c, d, rfl⟩ := two (.inr g5)
    have sz1 := szc c (by simp)
    have sz2 := szc d (by simp)
    (try simp only[↓jr,jw,seval,List.drop_zero])
    refine JDC.use (ih c (by simp) _ (Con.oks_mem hc4 (by simp)) (shapedL_mem hs2 (by simp)) (by simp only [Con.nodesL] at hm; omega)) ?_
    (try simp only[↓jr,jw,seval])
    refine wc.intro (by simp only [ba_size_append, lz1, lz3, lz4, lz5]; omega) ?_
    (try simp only[↓jr,jw,seval])
    refine wc.intro (by simp only [ba_size_append, lz1, lz3, lz4, lz5]; omega) ?_
    (try simp only[↓jr,jw,seval,cut2])
    refine JDC.use (ih d (by simp) _ (Con.oks_mem hc4 (by simp)) (shapedL_mem hs2 (by simp)) (by simp only [Con.nodesL] at hm; omega)) ?_
    (try simp only[↓jr,jw,seval])
    refine wc.intro (by simp only [ba_size_append, lz1, lz3, lz4, lz5]; omega) ?_
    (try simp only[↓jr,jw,seval])
    refine wc.intro (by simp only [ba_size_append, lz1, lz3, lz4, lz5]; omega) ?_
    (try simp only[↓jr,jw,seval])
    refine JDRAW.oc (by (try simp only[↓jr,jw,seval,jq]) <;> exact orq) ?_; (try simp only[↓jr,jw,seval])
    refine JFIN.rb ?_
    simp only [strC, if_neg g0, if_neg g1, if_neg g2, if_neg g3, if_neg g4, if_pos g5, strH, strT]; exact SubB.v
  (try simp only[↓jr,jw,seval])
  refine wq.intro (fun g6 => ?_) (fun g6 => ?_)
  all_goals
    obtain ⟨c, rfl⟩ := one (by omega)
    have sz1 := szc c (by simp)
    (try simp only[↓jr,jw,seval,List.drop_zero])
    refine JDC.use (s_cRole n h2 k hs3 (by rw [hrs]; exact hs5 (by omega) (by first | (rw [g6]; rfl) | (rw [show o = 7 by omega]; rfl))) hl2 _) ?_
    (try simp only[↓jr,jw,seval])
    refine wc.intro (by simp only [ba_size_append, lz1, lz3, lz4, lz5]; omega) ?_
    (try simp only[↓jr,jw,seval])
    refine wc.intro (by simp only [ba_size_append, lz1, lz3, lz4, lz5]; omega) ?_
    (try simp only[↓jr,jw,seval,List.drop_zero])
    refine JDC.use (ih c (by simp) _ (Con.oks_mem hc4 (by simp)) (shapedL_mem hs2 (by simp)) (by simp only [Con.nodesL] at hm; omega)) ?_
    (try simp only[↓jr,jw,seval])
    refine wc.intro (by simp only [ba_size_append, lz1, lz3, lz4, lz5]; omega) ?_
    (try simp only[↓jr,jw,seval])
    refine JDRAW.oc (by (try simp only[↓jr,jw,seval,jq]) <;> exact orq) ?_; (try simp only[↓jr,jw,seval])
    refine JFIN.rb ?_
    simp only [strC, if_neg g0, if_neg g1, if_neg g2, if_neg g3, if_neg g4, if_neg g5, g6, if_true, if_false, strH]; exact SubB.v
end
end Go.Proofs.YtcajjicdbphkpaaGreatDoor.Pg
