/-
  Interpretations as data; sets of numbers as words of bits.
-/
import Derived.Test.YtnkkeenclhncmaaDoorLb
set_option linter.unusedVariables false
set_option linter.unusedSimpArgs false
set_option linter.defProp false
set_option maxRecDepth 100000
namespace Go.Proofs.YtnkkeenclhncmaaDoor.Pg
open Go
section
/-! ### Data -/
def IL (l : List Int) : List AV := [.sl .none l.length (ints l)]
abbrev PR (p : Int × Int) : List AV := [I64 p.1, I64 p.2]
def PL (l : List (Int × Int)) : List AV := [.sl .none l.length (encs PR l)]
structure Itp where
  size : Int
  cons : List (List Int)
  rols : List (List (Int × Int))
  inds : List Int
def Itp.enc (i : Itp) : List AV := [I64 i.size, .sl .none i.cons.length (encs IL i.cons), .sl .none i.rols.length (encs PL i.rols), .sl .none i.inds.length (ints i.inds)]
theorem d_il {l : List Int} {r : List (List Int)} : encs IL (l :: r) = .sl .none l.length (ints l) :: encs IL r := rfl
theorem d_il2 {l : List Int} {cs : List AV} : IL l ++ cs = .sl .none l.length (ints l) :: cs := rfl
theorem d_ild {l : List (List Int)} {k : Nat} : (encs IL l).drop k = encs IL (l.drop k) := by
  have := encs_drop (e := IL) (n := 1) (fun _ => rfl) l k; simpa using this
theorem d_ill {l : List (List Int)} : (encs IL l).length = l.length := by
  have := encs_length (e := IL) (n := 1) (fun _ => rfl) l; simpa using this
theorem IL.pur (l : List (List Int)) : AV.pures (encs IL l) = true := encs_pur (fun l => by simp [IL, AV.pures, AV.pure, ints_pur]) l
theorem d_pl {l : List (Int × Int)} {r : List (List (Int × Int))} : encs PL (l :: r) = .sl .none l.length (encs PR l) :: encs PL r := rfl
theorem d_pl2 {l : List (Int × Int)} {cs : List AV} : PL l ++ cs = .sl .none l.length (encs PR l) :: cs := rfl
theorem d_pld {l : List (List (Int × Int))} {k : Nat} : (encs PL l).drop k = encs PL (l.drop k) := by
  have := encs_drop (e := PL) (n := 1) (fun _ => rfl) l k; simpa using this
theorem d_pll {l : List (List (Int × Int))} : (encs PL l).length = l.length := by
  have := encs_length (e := PL) (n := 1) (fun _ => rfl) l; simpa using this
theorem PR.pur (l : List (Int × Int)) : AV.pures (encs PR l) = true := encs_pur (fun l => rfl) l
theorem PL.pur (l : List (List (Int × Int))) : AV.pures (encs PL l) = true := encs_pur (fun l => by simp [PL, AV.pures, AV.pure, PR.pur]) l
theorem d_prd {l : List (Int × Int)} {k : Nat} : (encs PR l).drop (k * 2) = encs PR (l.drop k) := encs_drop (e := PR) (n := 2) (fun _ => rfl) l k
theorem d_prl {l : List (Int × Int)} : (encs PR l).length = l.length * 2 := encs_length (e := PR) (n := 2) (fun _ => rfl) l
theorem d_pr {p : Int × Int} {r : List (Int × Int)} : encs PR (p :: r) = I64 p.1 :: I64 p.2 :: encs PR r := rfl
theorem Itp.len (i : Itp) : i.enc.length = 4 := rfl
theorem Itp.pur (i : Itp) : AV.pures i.enc = true := by simp [Itp.enc, AV.pures, AV.pure, IL.pur, PL.pur, ints_pur]
theorem d_itp1 {i : Itp} : icut (some 4) i.enc 0 = some (.agg i.enc) := icut_all i.len
theorem d_itp2 {i : Itp} : icut none i.enc 0 = some (I64 i.size) := rfl
theorem d_itp3 {i : Itp} : icut none i.enc 1 = some (.sl .none i.cons.length (encs IL i.cons)) := rfl
theorem d_itp4 {i : Itp} : icut none i.enc 2 = some (.sl .none i.rols.length (encs PL i.rols)) := rfl
theorem d_itp5 {i : Itp} : icut none i.enc 3 = some (.sl .none i.inds.length (ints i.inds)) := rfl
theorem d_itp6 {i : Itp} {cs : List AV} : icut (some 4) (i.enc ++ cs) 0 = some (.agg i.enc) := icut_pre i.len
theorem d_itp9 {i : Itp} : i.enc.all AV.one = true := rfl
theorem d_itp10 {i : Itp} : irow 4 i.enc = some i.enc := by unfold irow; rw [← i.len, List.take_length]; simp
def ji := And.intro @d_il2 (And.intro @d_ild (And.intro @d_ill (And.intro @d_pl2 (And.intro @d_pld (And.intro @d_pll (And.intro @d_prd (And.intro @d_prl (And.intro @d_itp1 (And.intro @d_itp2 (And.intro @d_itp3 (And.intro @d_itp4 (And.intro @d_itp5 (And.intro @d_itp6 (And.intro @d_itp9 (And.intro @d_itp10 (And.intro @Itp.len (And.intro @d_il (And.intro @d_pl @d_pr))))))))))))))))))
/-! ### Words -/
abbrev U64 (n : Int) : AV := .v (.int .u64 n)
/-- The number whose bits are f at b, b + 1, .., for m bits. -/
def wrd (f : Nat → Bool) : Nat → Nat → Nat
  | _, 0 => 0
  | b, m + 1 => (if f b then 1 else 0) + 2 * wrd f (b + 1) m
theorem wrd_bit (f : Nat → Bool) : ∀ (m b i : Nat), (wrd f b m).testBit i = (decide (i < m) && f (b + i))
  | 0, b, i => by simp [wrd]
  | m + 1, b, 0 => by
    simp only [wrd, Nat.testBit_zero, Nat.add_zero, Nat.zero_lt_succ, decide_true, Bool.true_and]
    cases f b <;> simp [Nat.add_mod]
  | m + 1, b, i + 1 => by
    rw [wrd, Nat.testBit_succ]
    have e : ((if f b then 1 else 0) + 2 * wrd f (b + 1) m) / 2 = wrd f (b + 1) m := by cases f b <;> simp <;> omega
    rw [e, wrd_bit f m (b + 1) i, show b + 1 + i = b + (i + 1) by omega]
    simp
theorem wrd_lt (f : Nat → Bool) : ∀ (m b : Nat), wrd f b m < 2 ^ m
  | 0, b => by simp [wrd]
  | m + 1, b => by
    have := wrd_lt f m (b + 1)
    rw [wrd, Nat.pow_succ]
    cases f b <;> simp <;> omega
theorem wrd_congr {f g : Nat → Bool} : ∀ {m b : Nat}, (∀ i, i < m → f (b + i) = g (b + i)) → wrd f b m = wrd g b m
  | 0, _, _ => rfl
  | m + 1, b, h => by
    rw [wrd, wrd]
    have h0 := h 0 (Nat.zero_lt_succ _)
    rw [Nat.add_zero] at h0
    rw [h0, wrd_congr (f := f) (g := g) fun i hi => by have := h (i + 1) (by omega); rwa [show b + (i + 1) = b + 1 + i by omega] at this]
def wds (f : Nat → Bool) (n : Nat) : List AV := (List.range n).map fun k => U64 (wrd f (64 * k) 64)
theorem wds_len {f : Nat → Bool} {n : Nat} : (wds f n).length = n := by simp [wds]
theorem wds_at {f : Nat → Bool} {n k : Nat} (h : k < n) : (wds f n)[k]? = some (U64 (wrd f (64 * k) 64)) := by
  simp [wds, List.getElem?_range h]
theorem wds_pur {f : Nat → Bool} {n : Nat} : AV.pures (wds f n) = true := by
  unfold wds
  induction List.range n with
  | nil => rfl
  | cons a l ih => simp only [List.map_cons, AV.pures, AV.pure, ih, Bool.and_self]
theorem wds_set {f g : Nat → Bool} {n k : Nat} (h : ∀ i, i / 64 ≠ k → g i = f i) : (wds f n).set k (U64 (wrd g (64 * k) 64)) = wds g n := by
  refine List.ext_getElem (by simp [wds]) fun j h1 h2 => ?_
  rw [List.getElem_set]
  have hj : j < n := by simpa [wds] using h2
  by_cases e : k = j
  · subst e; rw [if_pos rfl]; simp [wds]
  · rw [if_neg e]
    simp only [wds, List.getElem_map, List.getElem_range]
    rw [wrd_congr (f := f) (g := g) (m := 64) (b := 64 * j) fun i hi => (h _ (by omega)).symm]
theorem wrap_u64 {a : Nat} (h : a < 18446744073709551616) : IntKind.u64.wrap (a : Int) = a := by
  have hs : IntKind.u64.signed = false := rfl
  have hb : (2 : Int) ^ IntKind.u64.bits = 18446744073709551616 := by decide
  unfold IntKind.wrap
  simp only [hs, Bool.false_and, Bool.false_eq_true, if_false, hb]
  omega
theorem lt64 {a : Nat} : (a < 2 ^ 64) = (a < 18446744073709551616) := by simp
theorem iand_nat {a b : Nat} (ha : a < 2 ^ 64) (hb : b < 2 ^ 64) : iand (a : Int) (b : Int) = ((a &&& b : Nat) : Int) := by
  have e : (BitVec.ofInt IntKind.u64.bits (a : Int) &&& BitVec.ofInt IntKind.u64.bits (b : Int)).toNat = a &&& b := by
    show (BitVec.ofInt 64 (a : Int) &&& BitVec.ofInt 64 (b : Int)).toNat = a &&& b
    rw [BitVec.ofInt_natCast, BitVec.ofInt_natCast, BitVec.toNat_and, BitVec.toNat_ofNat, BitVec.toNat_ofNat, Nat.mod_eq_of_lt ha, Nat.mod_eq_of_lt hb]
  unfold iand
  rw [e]
  exact wrap_u64 (lt64.mp (Nat.lt_of_le_of_lt Nat.and_le_left ha))
theorem ior_nat {a b : Nat} (ha : a < 2 ^ 64) (hb : b < 2 ^ 64) : ior (a : Int) (b : Int) = ((a ||| b : Nat) : Int) := by
  have e : (BitVec.ofInt IntKind.u64.bits (a : Int) ||| BitVec.ofInt IntKind.u64.bits (b : Int)).toNat = a ||| b := by
    show (BitVec.ofInt 64 (a : Int) ||| BitVec.ofInt 64 (b : Int)).toNat = a ||| b
    rw [BitVec.ofInt_natCast, BitVec.ofInt_natCast, BitVec.toNat_or, BitVec.toNat_ofNat, BitVec.toNat_ofNat, Nat.mod_eq_of_lt ha, Nat.mod_eq_of_lt hb]
  unfold ior
  rw [e]
  exact wrap_u64 (lt64.mp (Nat.or_lt_two_pow ha hb))
theorem min64 {x : Nat} : min (x % 64) IntKind.u64.bits = x % 64 := by
  have : IntKind.u64.bits = 64 := rfl
  omega
theorem pow_cast {k : Nat} : ((2 : Int) ^ k) = ((2 ^ k : Nat) : Int) := by rw [Int.natCast_pow]; rfl
theorem fdiv_nat {a b : Nat} : (a : Int).fdiv (b : Int) = ((a / b : Nat) : Int) := by rw [Int.fdiv_eq_ediv_of_nonneg _ (Int.natCast_nonneg b)]; rfl
theorem bit_has {f : Nat → Bool} {x : Nat} : decide (iand (((wrd f (64 * (x / 64)) 64 : Nat) : Int).fdiv (2 ^ min (x % 64) IntKind.u64.bits)) 1 = 1) = f x := by
  have hw := wrd_lt f 64 (64 * (x / 64))
  have h2 := wrd_bit f 64 (64 * (x / 64)) (x % 64)
  generalize wrd f (64 * (x / 64)) 64 = w at hw h2 ⊢
  have hx : 64 * (x / 64) + x % 64 = x := by omega
  have hl : x % 64 < 64 := by omega
  rw [min64]
  rw [hx, decide_eq_true hl, Bool.true_and] at h2
  generalize x % 64 = q at h2 ⊢
  rw [pow_cast, fdiv_nat]
  have h1 := iand_nat (a := w / 2 ^ q) (b := 1) (Nat.lt_of_le_of_lt (Nat.div_le_self _ _) hw) (by decide)
  rw [show ((1 : Nat) : Int) = 1 from rfl] at h1
  rw [h1, Nat.and_one_is_mod]
  rw [Nat.testBit_eq_decide_div_mod_eq] at h2
  rw [← h2]
  exact decide_eq_decide.2 (by omega)
def updF (f : Nat → Bool) (x : Nat) : Nat → Bool := fun i => i == x || f i
theorem ior_bit {w q : Nat} (hw : w < 2 ^ 64) (hq : q < 64) : ior (w : Int) (IntKind.u64.wrap (1 * 2 ^ q)) = ((w ||| 2 ^ q : Nat) : Int) := by
  have hp : 2 ^ q < 2 ^ 64 := Nat.pow_lt_pow_right (by decide) hq
  have e : IntKind.u64.wrap (1 * 2 ^ q) = ((2 ^ q : Nat) : Int) := by
    rw [Int.one_mul, pow_cast]; exact wrap_u64 (lt64.mp hp)
  rw [e]; exact ior_nat hw hp
theorem wrd_add {f : Nat → Bool} {x : Nat} : wrd f (64 * (x / 64)) 64 ||| 2 ^ (x % 64) = wrd (updF f x) (64 * (x / 64)) 64 := by
  have hl : x % 64 < 64 := by omega
  have hx : 64 * (x / 64) + x % 64 = x := by omega
  generalize x % 64 = q at hl hx ⊢
  refine Nat.eq_of_testBit_eq fun i => ?_
  rw [Nat.testBit_or, wrd_bit, wrd_bit, Nat.testBit_two_pow]
  unfold updF
  by_cases h : i < 64
  · rw [decide_eq_true h, Bool.true_and, Bool.true_and, Bool.or_comm]
    congr 1
    by_cases e : q = i
    · rw [decide_eq_true e]; symm; rw [beq_iff_eq]; omega
    · rw [decide_eq_false e]; symm; rw [beq_eq_false_iff_ne]; omega
  · have : ¬ q = i := by omega
    rw [decide_eq_false h, decide_eq_false this]; rfl
theorem bit_add {f : Nat → Bool} {x : Nat} : ior ((wrd f (64 * (x / 64)) 64 : Nat) : Int) (IntKind.u64.wrap (1 * 2 ^ min (x % 64) IntKind.u64.bits)) = ((wrd (updF f x) (64 * (x / 64)) 64 : Nat) : Int) := by
  rw [min64, ior_bit (wrd_lt f 64 _) (by omega), wrd_add]
theorem tdiv64 {x : Nat} : (x : Int).tdiv 64 = ((x / 64 : Nat) : Int) := by rw [Int.tdiv_eq_ediv_of_nonneg (Int.natCast_nonneg x)]; rfl
theorem tmod64 {x : Nat} : (x : Int).tmod 64 = ((x % 64 : Nat) : Int) := by rw [Int.tmod_eq_emod_of_nonneg (Int.natCast_nonneg x)]; rfl
theorem wds_zero {n : Nat} : acycle [U64 0] (n * 1) = wds (fun _ => false) n := by
  have h0 : ∀ (m b : Nat), wrd (fun _ => false) b m = 0 := by
    intro m
    induction m with
    | zero => intro b; rfl
    | succ m ih => intro b; simp [wrd, ih]
  unfold acycle wds
  rw [Nat.mul_one]
  refine List.map_congr_left fun k _ => ?_
  rw [h0]; simp [Nat.mod_one]
theorem wds_congr {f g : Nat → Bool} {n : Nat} (h : ∀ i, i < 64 * n → f i = g i) : wds f n = wds g n := by
  unfold wds
  refine List.map_congr_left fun k hk => ?_
  rw [wrd_congr fun i hi => h _ (by have := List.mem_range.1 hk; omega)]
def bitsL (f : Nat → Bool) (k : Nat) : List Int := ((List.range k).filter f).map fun (i : Nat) => (i : Int)
theorem bitsL_succ {f : Nat → Bool} {k : Nat} : bitsL f (k + 1) = bitsL f k ++ (if f k then [(k : Int)] else []) := by
  unfold bitsL
  rw [List.range_succ, List.filter_append, List.map_append]
  congr 1
  cases h : f k <;> simp [h]
theorem bitsL_len {f : Nat → Bool} {k : Nat} : (bitsL f k).length ≤ k := by
  unfold bitsL; rw [List.length_map]; exact Nat.le_trans (List.length_filter_le _ _) (by simp)
end
end Go.Proofs.YtnkkeenclhncmaaDoor.Pg
