/-
  Renumbered interpretations: the same truths.
-/
import Derived.Test.YtnkkeenclhncmaaGreatDoorIv
import Derived.Test.YtnkkeenclhncmaaGreatDoorIx
set_option linter.unusedVariables false
set_option linter.unusedSimpArgs false
set_option maxRecDepth 100000
set_option maxHeartbeats 8000000
namespace Go.Proofs.YtnkkeenclhncmaaGreatDoor.Pg
open Go
/-- The new number of an element. -/
def plc (y n x : Int) : Int := (n - 1 - x + (y.tmod n + n)).tmod n
theorem plc_eq {y n x : Int} (hn : 1 ≤ n) (h0 : 0 ≤ x) (h1 : x < n) : plc y n x = (n - 1 - x + (y.tmod n + n)) % n := by
  have := Int.lt_tmod_of_pos y (b := n) (by omega)
  exact Int.tmod_eq_emod_of_nonneg (by omega)
theorem plc_in {y n x : Int} (hn : 1 ≤ n) (h0 : 0 ≤ x) (h1 : x < n) : 0 ≤ plc y n x ∧ plc y n x < n := by
  rw [plc_eq hn h0 h1]
  exact ⟨Int.emod_nonneg _ (by omega), Int.emod_lt_of_pos _ (by omega)⟩
theorem plc_plc {y n x : Int} (hn : 1 ≤ n) (h0 : 0 ≤ x) (h1 : x < n) : plc y n (plc y n x) = x := by
  obtain ⟨a, b⟩ := plc_in (y := y) hn h0 h1
  rw [plc_eq hn a b, plc_eq hn h0 h1]
  have hd := Int.mul_ediv_add_emod (n - 1 - x + (y.tmod n + n)) n
  generalize (n - 1 - x + (y.tmod n + n)) / n = q at hd
  generalize hr : (n - 1 - x + (y.tmod n + n)) % n = r at hd ⊢
  have e : n - 1 - r + (y.tmod n + n) = x + n * q := by omega
  rw [e, Int.add_mul_emod_self_left]
  exact Int.emod_eq_of_lt h0 h1
theorem plc_inj {y n a b : Int} (hn : 1 ≤ n) (a0 : 0 ≤ a) (a1 : a < n) (b0 : 0 ≤ b) (b1 : b < n) (h : plc y n a = plc y n b) : a = b := by
  have := congrArg (plc y n) h
  rwa [plc_plc hn a0 a1, plc_plc hn b0 b1] at this
def plp (y n : Int) (p : Int × Int) : Int × Int := (plc y n p.1, plc y n p.2)
/-- All pairs of a list, in order. -/
def sortP (n : Nat) (l : List (Int × Int)) : List (Int × Int) := (List.range n).flatMap fun (a : Nat) => ((List.range n).filter fun (b : Nat) => decide (((a : Int), (b : Int)) ∈ l)).map fun (b : Nat) => ((a : Int), (b : Int))
theorem sortP_mem {n : Nat} {l : List (Int × Int)} {p : Int × Int} : p ∈ sortP n l ↔ p ∈ l ∧ 0 ≤ p.1 ∧ p.1 < n ∧ 0 ≤ p.2 ∧ p.2 < n := by
  unfold sortP
  simp only [List.mem_flatMap, List.mem_range, List.mem_map, List.mem_filter, decide_eq_true_eq]
  constructor
  · rintro ⟨a, ha, b, ⟨hb, hm⟩, rfl⟩
    exact ⟨hm, by simp only; omega, by simp only; omega, by simp only; omega, by simp only; omega⟩
  · rintro ⟨hm, h1, h2, h3, h4⟩
    obtain ⟨u, v⟩ := p
    simp only at h1 h2 h3 h4
    obtain ⟨a, rfl⟩ : ∃ a : Nat, u = a := ⟨u.toNat, by omega⟩
    obtain ⟨b, rfl⟩ : ∃ b : Nat, v = b := ⟨v.toNat, by omega⟩
    exact ⟨a, by omega, b, ⟨by omega, hm⟩, rfl⟩
theorem sortP_pw {n : Nat} {l : List (Int × Int)} : (sortP n l).Pairwise (fun p r => lessP p r = true) := by
  unfold sortP
  rw [List.pairwise_flatMap]
  refine ⟨fun a _ => ?_, ?_⟩
  · rw [List.pairwise_map]
    refine List.Pairwise.imp (fun {x z} hxz => ?_) ((List.pairwise_lt_range (n := n)).filter _)
    unfold lessP
    simp only [Bool.or_eq_true, Bool.and_eq_true, decide_eq_true_eq]
    exact .inr ⟨trivial, by omega⟩
  · refine List.Pairwise.imp (fun {x z} hxz => ?_) (List.pairwise_lt_range (n := n))
    intro p hp q hq
    obtain ⟨p', _, rfl⟩ := List.mem_map.1 hp
    obtain ⟨q', _, rfl⟩ := List.mem_map.1 hq
    unfold lessP
    simp only [Bool.or_eq_true, Bool.and_eq_true, decide_eq_true_eq]
    exact .inl (by omega)
theorem rolR_of {s : Int} : ∀ {l : List (Int × Int)} {q : Int × Int}, l.Pairwise (fun p r => lessP p r = true) → (∀ p ∈ l, lessP q p = true ∧ prIn s p = true) → rolR s q l = true
  | [], _, _, _ => rfl
  | p :: l, q, h, k => by
    obtain ⟨h1, h2⟩ := List.pairwise_cons.1 h
    obtain ⟨k1, k2⟩ := k p List.mem_cons_self
    simp only [rolR, Bool.and_eq_true]
    exact ⟨⟨k2, k1⟩, rolR_of h2 fun r hr => ⟨h1 r hr, (k r (List.mem_cons_of_mem _ hr)).2⟩⟩
theorem sortP_ok {n : Nat} {l : List (Int × Int)} : rolOKp n (sortP n l) = true := by
  rw [← rolR_start]
  refine rolR_of sortP_pw fun p hp => ?_
  obtain ⟨_, h1, h2, h3, h4⟩ := sortP_mem.1 hp
  refine ⟨?_, prIn_iff.2 ⟨h1, h2, h3, h4⟩⟩
  unfold lessP
  simp only [Bool.or_eq_true, Bool.and_eq_true, decide_eq_true_eq]
  exact .inl (by omega)
/-- The renumbered interpretation. -/
def movI (i : Itp) (y : Int) : Itp := ⟨i.size, i.cons.map fun l => bitsL (memF (l.map (plc y i.size))) (sz i), i.rols.map fun l => sortP (sz i) (l.map (plp y i.size)), i.inds.map (plc y i.size)⟩
theorem mov_sz {i : Itp} {y : Int} : sz (movI i y) = sz i := rfl
theorem mov_ok {n : Nms} {i : Itp} {y : Int} (h : itpOK n i = true) : itpOK n (movI i y) = true := by
  obtain ⟨hwf, hcl, hrl, hil⟩ := Itp.wf_of h
  obtain ⟨e1, e2, e3⟩ := sz_size hwf
  unfold itpOK at h ⊢
  simp only [Bool.and_eq_true, List.all_eq_true, decide_eq_true_eq] at h ⊢
  obtain ⟨⟨⟨h1, h2⟩, h3⟩, h4⟩ := h
  refine ⟨⟨⟨?_, fun l hl => ?_⟩, fun l hl => ?_⟩, fun x hx => ?_⟩
  · unfold hdOK at h1 ⊢
    simp only [movI, List.length_map]
    exact h1
  · obtain ⟨l', _, rfl⟩ := List.mem_map.1 hl
    show rising _ i.size = true
    rw [e1]; exact rising_bits
  · obtain ⟨l', _, rfl⟩ := List.mem_map.1 hl
    show rolOKp i.size _ = true
    rw [e1]; exact sortP_ok
  · obtain ⟨x', hx', rfl⟩ := List.mem_map.1 hx
    have := h4 x' hx'
    unfold inR at this ⊢
    simp only [Bool.and_eq_true, decide_eq_true_eq] at this ⊢
    exact plc_in hwf.s1 this.1 this.2
section
variable {i : Itp} {y : Int}
theorem mov_con (hi : i.wf) {n : Int} (h0 : 0 ≤ n) (h1 : n < i.cons.length) {x : Nat} (hx : x < sz i) : (conI (movI i y) n).contains (plc y i.size x) = (conI i n).contains (x : Int) := by
  obtain ⟨e1, e2, e3⟩ := sz_size hi
  have hlt : n.toNat < i.cons.length := by omega
  have hc : conI (movI i y) n = bitsL (memF ((conI i n).map (plc y i.size))) (sz i) := by
    unfold conI movI
    simp only [List.getElem?_map, List.getElem?_eq_getElem hlt, Option.map_some, Option.getD_some]
  have hm : conI i n ∈ i.cons := by
    unfold conI
    rw [List.getElem?_eq_getElem hlt]
    exact List.getElem_mem _
  have hr := hi.c _ hm
  have hp := plc_in (y := y) hi.s1 (x := (x : Int)) (by omega) (by omega)
  rw [hc, Bool.eq_iff_iff, List.contains_iff_mem, List.contains_iff_mem]
  unfold bitsL
  rw [List.mem_map]
  constructor
  · rintro ⟨z, hz, e⟩
    have h2 := (List.mem_filter.1 hz).2
    unfold memF at h2
    rw [List.contains_iff_mem, List.mem_map] at h2
    obtain ⟨w, hw, e2'⟩ := h2
    have hwr := hr w hw
    have : w = (x : Int) := plc_inj hi.s1 hwr.1 hwr.2 (by omega) (by omega) (e2'.trans e)
    rwa [← this]
  · intro h
    refine ⟨(plc y i.size x).toNat, List.mem_filter.2 ⟨List.mem_range.2 (by omega), ?_⟩, by omega⟩
    unfold memF
    rw [List.contains_iff_mem, List.mem_map]
    exact ⟨x, h, by omega⟩
theorem mov_rol (hi : i.wf) {n : Int} (h0 : 0 ≤ n) (h1 : n < 2 * (i.rols.length : Int)) {p : Int × Int} : p ∈ rolI (movI i y) n ↔ ∃ q ∈ rolI i n, p = plp y i.size q := by
  obtain ⟨e1, e2, e3⟩ := sz_size hi
  have hq : n.tdiv 2 = n / 2 := Int.tdiv_eq_ediv_of_nonneg h0
  have hlt : (n.tdiv 2).toNat < i.rols.length := by rw [hq]; omega
  have hc : rolI (movI i y) n = sortP (sz i) ((rolI i n).map (plp y i.size)) := by
    unfold rolI movI
    simp only [List.getElem?_map, List.getElem?_eq_getElem hlt, Option.map_some, Option.getD_some]
  have hr := hi.r _ (rolI_mem h0 h1)
  rw [hc, sortP_mem, List.mem_map]
  constructor
  · rintro ⟨⟨q, hq, rfl⟩, _⟩; exact ⟨q, hq, rfl⟩
  · rintro ⟨q, hq, rfl⟩
    obtain ⟨a, b, c, d⟩ := hr q hq
    have p1 := plc_in (y := y) hi.s1 a b
    have p2 := plc_in (y := y) hi.s1 c d
    exact ⟨⟨q, hq, rfl⟩, p1.1, by show plc y i.size q.1 < _; omega, p2.1, by show plc y i.size q.2 < _; omega⟩
theorem mov_any (hi : i.wf) {n : Int} (h0 : 0 ≤ n) (h1 : n < 2 * (i.rols.length : Int)) (g : Int × Int → Bool) : (rolI (movI i y) n).any g = (rolI i n).any fun q => g (plp y i.size q) := by
  rw [Bool.eq_iff_iff, List.any_eq_true, List.any_eq_true]
  constructor
  · rintro ⟨p, hp, hg⟩
    obtain ⟨q, hq, rfl⟩ := (mov_rol hi h0 h1).1 hp
    exact ⟨q, hq, hg⟩
  · rintro ⟨q, hq, hg⟩
    exact ⟨_, (mov_rol hi h0 h1).2 ⟨q, hq, rfl⟩, hg⟩
theorem fr_plp {n : Int} {q : Int × Int} : frP n (plp y i.size q) = plc y i.size (frP n q) ∧ toP n (plp y i.size q) = plc y i.size (toP n q) := by
  unfold frP toP plp
  split <;> exact ⟨rfl, rfl⟩
theorem fr_in (hi : i.wf) {n : Int} (h0 : 0 ≤ n) (h1 : n < 2 * (i.rols.length : Int)) {q : Int × Int} (hq : q ∈ rolI i n) : (0 ≤ frP n q ∧ frP n q < i.size) ∧ 0 ≤ toP n q ∧ toP n q < i.size := by
  obtain ⟨a, b, c, d⟩ := hi.r _ (rolI_mem h0 h1) q hq
  unfold frP toP
  split
  · exact ⟨⟨a, b⟩, c, d⟩
  · exact ⟨⟨c, d⟩, a, b⟩
theorem semC_some {i : Itp} {n : Int} {a : Con} {x : Nat} : semC i (.mk 6 n [a]) x = (decide (x < sz i) && (rolI i n).any (fun p => decide (frP n p = (x : Int)) && semC i a (toP n p).toNat)) := by simp [semC, semH]
theorem semC_all {i : Itp} {n : Int} {a : Con} {x : Nat} : semC i (.mk 7 n [a]) x = (decide (x < sz i) && !(rolI i n).any (fun p => decide (frP n p = (x : Int)) && !semC i a (toP n p).toNat)) := by simp [semC, semH]
theorem semC_mov (hi : i.wf) : ∀ (c : Con) (x : Nat), shaped i.cons.length i.rols.length c = true → x < sz i → semC (movI i y) c (plc y i.size x).toNat = semC i c x := by
  obtain ⟨e1, e2, e3⟩ := sz_size hi
  intro c
  induction c using Con.ind with
  | h o n l ih =>
  intro x hs hx
  rw [shaped_mk] at hs
  obtain ⟨hs1, hs2⟩ := hs
  have hp := plc_in (y := y) hi.s1 (x := (x : Int)) (by omega) (by omega)
  have hpl : (plc y i.size x).toNat < sz (movI i y) := by rw [mov_sz]; omega
  have hcast : (((plc y i.size x).toNat : Nat) : Int) = plc y i.size x := by omega
  have key : ∀ (n : Int), 0 ≤ n → n < 2 * (i.rols.length : Int) → ∀ (a : Con), shaped i.cons.length i.rols.length a = true → a ∈ l → ∀ g : Bool → Bool,
      (rolI (movI i y) n).any (fun p => decide (frP n p = (((plc y i.size x).toNat : Nat) : Int)) && g (semC (movI i y) a (toP n p).toNat)) = (rolI i n).any (fun p => decide (frP n p = (x : Int)) && g (semC i a (toP n p).toNat)) := by
    intro n h1 h2 a ha hal g
    rw [mov_any hi h1 h2]
    refine any_congr' fun q hq => ?_
    obtain ⟨⟨f1, f2⟩, t1, t2⟩ := fr_in hi h1 h2 hq
    obtain ⟨g1, g2⟩ := @fr_plp i y n q
    rw [g1, g2, hcast]
    obtain ⟨u, hu⟩ : ∃ u : Nat, toP n q = u := ⟨(toP n q).toNat, by omega⟩
    rw [hu, ih a hal u ha (by omega), Int.toNat_natCast]
    congr 1
    refine decide_eq_decide.2 ⟨fun h => plc_inj hi.s1 f1 f2 (by omega) (by omega) h, fun h => by rw [h]⟩
  rcases sh_cases hs1 with ⟨rfl, h0, h1, h2⟩ | ⟨rfl, h0⟩ | ⟨rfl, h0⟩ | ⟨rfl, h0⟩ | ⟨rfl, h0⟩ | ⟨rfl, h0⟩ | ⟨rfl, h0, h1, h2⟩ | ⟨rfl, h0, h1, h2⟩
  · simp only [semC, if_true, hcast]
    rw [mov_con hi h1 (by omega) hx, decide_eq_true hpl, decide_eq_true hx]
  · simp [semC, hpl, hx]
  · simp [semC]
  · obtain ⟨a, rfl⟩ := one_of h0
    have ia := ih a (by simp) x (shL_mem hs2 (by simp)) hx
    simp [semC, semH, hpl, hx, ia]
  · obtain ⟨a, b, rfl⟩ := two_of h0
    have ia := ih a (by simp) x (shL_mem hs2 (by simp)) hx
    have ib := ih b (by simp) x (shL_mem hs2 (by simp)) hx
    simp [semC, semH, semT, hpl, hx, ia, ib]
  · obtain ⟨a, b, rfl⟩ := two_of h0
    have ia := ih a (by simp) x (shL_mem hs2 (by simp)) hx
    have ib := ih b (by simp) x (shL_mem hs2 (by simp)) hx
    simp [semC, semH, semT, hpl, hx, ia, ib]
  · obtain ⟨a, rfl⟩ := one_of h0
    have hk := key n h1 h2 a (shL_mem hs2 (by simp)) (by simp) id
    simp only [id] at hk
    rw [semC_some, semC_some, decide_eq_true hpl, decide_eq_true hx, hk]
  · obtain ⟨a, rfl⟩ := one_of h0
    have hk := key n h1 h2 a (shL_mem hs2 (by simp)) (by simp) not
    rw [semC_all, semC_all, decide_eq_true hpl, decide_eq_true hx, hk]
theorem inclF_mov (hi : i.wf) {c d : Con} (h1 : shaped i.cons.length i.rols.length c = true) (h2 : shaped i.cons.length i.rols.length d = true) : inclF (semC (movI i y) c) (semC (movI i y) d) (sz i) = inclF (semC i c) (semC i d) (sz i) := by
  obtain ⟨e1, e2, e3⟩ := sz_size hi
  rw [Bool.eq_iff_iff, inclF_iff, inclF_iff]
  constructor
  · intro h x hx hc
    have hp := plc_in (y := y) hi.s1 (x := (x : Int)) (by omega) (by omega)
    have := h (plc y i.size x).toNat (by omega)
    rw [semC_mov hi c x h1 hx, semC_mov hi d x h2 hx] at this
    exact this hc
  · intro h z hz hc
    have hp := plc_in (y := y) hi.s1 (x := (z : Int)) (by omega) (by omega)
    have hpp := plc_plc (y := y) hi.s1 (x := (z : Int)) (by omega) (by omega)
    obtain ⟨x, hx⟩ : ∃ x : Nat, plc y i.size z = x := ⟨(plc y i.size z).toNat, by omega⟩
    rw [hx] at hpp
    have hxs : x < sz i := by omega
    have ez : (plc y i.size x).toNat = z := by omega
    have := h x hxs
    rw [← semC_mov (y := y) hi c x h1 hxs, ← semC_mov (y := y) hi d x h2 hxs, ez] at this
    exact this hc
theorem relL_iff {i : Itp} (hi : i.wf) {n : Int} (h0 : 0 ≤ n) (h1 : n < 2 * (i.rols.length : Int)) {p : Int × Int} : p ∈ relL i n ↔ ∃ q ∈ rolI i n, p = (frP n q, toP n q) := by
  obtain ⟨e1, e2, e3⟩ := sz_size hi
  have hr := hi.r _ (rolI_mem h0 h1)
  unfold relL frP toP
  by_cases hm : n.tmod 2 = 0
  · simp only [hm, if_true]
    exact ⟨fun h => ⟨p, h, rfl⟩, fun ⟨q, hq, e⟩ => by rw [e]; exact hq⟩
  · simp only [hm, if_false]
    exact invI_mem fun p hp => by have := hr p hp; omega
theorem mov_rel (hi : i.wf) {n : Int} (h0 : 0 ≤ n) (h1 : n < 2 * (i.rols.length : Int)) {p : Int × Int} : p ∈ relL (movI i y) n ↔ ∃ q ∈ relL i n, p = plp y i.size q := by
  have hw : (movI i y).wf := by
    obtain ⟨e1, e2, e3⟩ := sz_size hi
    refine ⟨hi.s1, hi.s2, fun l hl x hx => ?_, fun l hl p hp => ?_⟩
    · obtain ⟨l', _, rfl⟩ := List.mem_map.1 hl
      have := bits_lt x hx
      show 0 ≤ x ∧ x < i.size
      omega
    · obtain ⟨l', _, rfl⟩ := List.mem_map.1 hl
      obtain ⟨_, a, b, c, d⟩ := sortP_mem.1 hp
      show 0 ≤ p.1 ∧ p.1 < i.size ∧ 0 ≤ p.2 ∧ p.2 < i.size
      omega
  rw [relL_iff hw h0 (by simpa [movI] using h1)]
  constructor
  · rintro ⟨q, hq, rfl⟩
    obtain ⟨r, hr, rfl⟩ := (mov_rol hi h0 h1).1 hq
    obtain ⟨g1, g2⟩ := @fr_plp i y n r
    exact ⟨(frP n r, toP n r), (relL_iff hi h0 h1).2 ⟨r, hr, rfl⟩, by rw [g1, g2]; rfl⟩
  · rintro ⟨q, hq, rfl⟩
    obtain ⟨r, hr, rfl⟩ := (relL_iff hi h0 h1).1 hq
    obtain ⟨g1, g2⟩ := @fr_plp i y n r
    exact ⟨plp y i.size r, (mov_rol hi h0 h1).2 ⟨r, hr, rfl⟩, by rw [g1, g2]; rfl⟩
theorem plp_inj (hn : 1 ≤ i.size) {p q : Int × Int} (hp : 0 ≤ p.1 ∧ p.1 < i.size ∧ 0 ≤ p.2 ∧ p.2 < i.size) (hq : 0 ≤ q.1 ∧ q.1 < i.size ∧ 0 ≤ q.2 ∧ q.2 < i.size) (h : plp y i.size p = plp y i.size q) : p = q := by
  obtain ⟨h1, h2⟩ := Prod.mk.inj h
  exact Prod.ext (plc_inj hn hp.1 hp.2.1 hq.1 hq.2.1 h1) (plc_inj hn hp.2.2.1 hp.2.2.2 hq.2.2.1 hq.2.2.2 h2)
theorem trueI_mov {b : Bas} (hv : BasOK b) (hit : itpOK b.nms i = true) {k : Nat} (hk : k < b.count) : trueI b (movI i y) k = trueI b i k := by
  obtain ⟨hwf, hcl, hrl, hil⟩ := Itp.wf_of hit
  obtain ⟨e1, e2, e3⟩ := sz_size hwf
  have hii : ∀ x ∈ i.inds, 0 ≤ x ∧ x < i.size := by
    unfold itpOK at hit
    simp only [Bool.and_eq_true, List.all_eq_true] at hit
    intro x hx
    have := hit.2 x hx
    unfold inR at this
    simpa using this
  have hind : ∀ n : Int, 0 ≤ n → n < i.inds.length → indI (movI i y) n = plc y i.size (indI i n) ∧ indI i n ∈ i.inds := by
    intro n h0 h1
    have hlt : n.toNat < i.inds.length := by omega
    unfold indI movI
    simp only [List.getElem?_map, List.getElem?_eq_getElem hlt, Option.map_some, Option.getD_some]
    exact ⟨trivial, List.getElem_mem _⟩
  unfold trueI
  cases hd : b.incls.drop k with
  | cons x r =>
    have hm : x ∈ b.incls := List.mem_of_mem_drop (hd ▸ List.mem_cons_self)
    obtain ⟨x1, x2⟩ := hv.i x hm
    exact inclF_mov hwf (shaped_of hit x1) (shaped_of hit x2)
  | nil =>
    simp only
    cases hd2 : b.roles.drop (k - b.incls.length) with
    | cons x r =>
      have hm : x ∈ b.roles := List.mem_of_mem_drop (hd2 ▸ List.mem_cons_self)
      obtain ⟨⟨a1, a2⟩, a3, a4⟩ := hv.r x hm
      simp only
      have p1 := relL_pr hwf (n := x.sub) a1 (by omega)
      have p2 := relL_pr hwf (n := x.sup) a3 (by omega)
      rw [Bool.eq_iff_iff, List.all_eq_true, List.all_eq_true]
      constructor
      · intro h p hp
        have := of_decide_eq_true (h (plp y i.size p) ((mov_rel hwf a1 (by omega)).2 ⟨p, hp, rfl⟩))
        obtain ⟨q, hq, e⟩ := (mov_rel hwf a3 (by omega)).1 this
        have h1 := p1 p hp
        have h2 := p2 q hq
        rw [decide_eq_true_eq, plp_inj hwf.s1 (by omega) (by omega) e]
        exact hq
      · intro h p hp
        obtain ⟨q, hq, rfl⟩ := (mov_rel hwf a1 (by omega)).1 hp
        exact decide_eq_true ((mov_rel hwf a3 (by omega)).2 ⟨q, of_decide_eq_true (h q hq), rfl⟩)
    | nil =>
      simp only
      cases hd3 : b.facts.drop (k - b.incls.length - b.roles.length) with
      | cons x r =>
        have hm : x ∈ b.facts := List.mem_of_mem_drop (hd3 ▸ List.mem_cons_self)
        obtain ⟨⟨a1, a2⟩, a3⟩ := hv.f x hm
        obtain ⟨g1, g2⟩ := hind x.ind a1 (by omega)
        have g3 := hii _ g2
        simp only
        rw [g1]
        obtain ⟨u, hu⟩ : ∃ u : Nat, indI i x.ind = u := ⟨(indI i x.ind).toNat, by omega⟩
        rw [hu, Int.toNat_natCast]
        exact semC_mov hwf x.con u (shaped_of hit a3) (by omega)
      | nil =>
        simp only
        cases hd4 : b.links.drop (k - b.incls.length - b.roles.length - b.facts.length) with
        | cons x r =>
          have hm : x ∈ b.links := List.mem_of_mem_drop (hd4 ▸ List.mem_cons_self)
          obtain ⟨⟨a1, a2⟩, ⟨a3, a4⟩, a5, a6⟩ := hv.l x hm
          obtain ⟨g1, g2⟩ := hind x.fr a3 (by omega)
          obtain ⟨g3, g4⟩ := hind x.to a5 (by omega)
          have g5 := hii _ g2
          have g6 := hii _ g4
          simp only
          have hlt : x.role.toNat < i.rols.length := by omega
          have hra : rolAt (movI i y) x.role = sortP (sz i) ((rolAt i x.role).map (plp y i.size)) := by
            unfold rolAt movI
            simp only [List.getElem?_map, List.getElem?_eq_getElem hlt, Option.map_some, Option.getD_some]
          have hrm : rolAt i x.role ∈ i.rols := by
            unfold rolAt
            rw [List.getElem?_eq_getElem hlt]
            exact List.getElem_mem _
          have hrr := hwf.r _ hrm
          rw [g1, g3, hra]
          refine decide_eq_decide.2 ?_
          rw [sortP_mem, List.mem_map]
          have q1 := plc_in (y := y) hwf.s1 g5.1 g5.2
          have q2 := plc_in (y := y) hwf.s1 g6.1 g6.2
          constructor
          · rintro ⟨⟨q, hq, e⟩, _⟩
            have h1 := hrr q hq
            have := plp_inj (y := y) hwf.s1 (p := q) (q := (indI i x.fr, indI i x.to)) (by omega) (by simp only; omega) e
            rwa [← this]
          · intro h
            exact ⟨⟨_, h, rfl⟩, q1.1, by simp only; omega, q2.1, by simp only; omega⟩
        | nil => rfl
end
end Go.Proofs.YtnkkeenclhncmaaGreatDoor.Pg
