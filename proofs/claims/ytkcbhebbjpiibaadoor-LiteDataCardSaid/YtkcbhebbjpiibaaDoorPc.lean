/-
  What both tell of individuals is the same.
-/
import Derived.Test.YtkcbhebbjpiibaaDoorPa
import Derived.Test.YtkcbhebbjpiibaaDoorPf
import Derived.Test.YtkcbhebbjpiibaaDoorPh
import Derived.Test.YtkcbhebbjpiibaaDoorOi
import Derived.Test.YtkcbhebbjpiibaaDoorMd
set_option linter.unusedVariables false
set_option linter.unusedSimpArgs false
set_option linter.unusedSectionVars false
set_option linter.defProp false
set_option maxRecDepth 20000
namespace Go.Proofs.YtkcbhebbjpiibaaDoor.Pg
open Go
theorem stS_map (S : List (Nat × Nat)) (f : Nat → Nat) (i : Nat) : stS (S.map fun p => (p.1, f p.2)) i = (stS S i).map f := by
  unfold stS
  rw [List.filter_map, List.map_map, List.map_map]
  rfl
theorem sg_map {b : Bas} (hs : b.said2) (h2 : b.few2) : b.dat.flatMap sg = (b.dat.flatMap (sgR b)).map fun p => (p.1, phi b p.2) := by
  rw [List.map_flatMap]
  have : ∀ x ∈ b.dat, sg x = (sgR b x).map fun p => (p.1, phi b p.2) := by
    intro x hx
    unfold Bas.dat at hx
    rcases List.mem_append.1 hx with hx | hx
    · obtain ⟨f, hf, rfl⟩ := List.mem_map.1 hx
      obtain ⟨i, c, e1, e2, lc⟩ := hs.fac f hf
      show [(f.ind.toNat, f.con.n.toNat)] = [(f.ind.toNat, phi b f.con.n.toNat)]
      have : phi b f.con.n.toNat = f.con.n.toNat := by unfold phi; rw [if_pos (by omega)]
      rw [this]
    · obtain ⟨l, hl, rfl⟩ := List.mem_map.1 hx
      show [(l.fr.toNat, 16 + 2 * l.role.toNat), (l.to.toNat, 16 + (2 * l.role.toNat + 1))] = [(l.fr.toNat, phi b (b.kc + 2 * l.role.toNat)), (l.to.toNat, phi b (b.kc + (2 * l.role.toNat + 1)))]
      rw [phi_role h2, phi_role h2]
  clear hs h2
  revert this
  generalize b.dat = D
  intro h
  induction D with
  | nil => rfl
  | cons x D ih => rw [List.flatMap_cons, List.flatMap_cons, h x List.mem_cons_self, ih fun y hy => h y (List.mem_cons_of_mem _ hy)]
theorem stD_ref {b : Bas} (hs : b.said2) (h2 : b.few2) (i : Nat) : stD b.dat i = (refL b i).map (phi b) := by
  rw [stD_eq, sg_map hs h2, stS_map]; rfl
theorem refL_lt {b : Bas} (hs : b.said2) {i d : Nat} (h : d ∈ refL b i) : d < b.kz := by
  rw [refL_flat] at h
  unfold stS at h
  obtain ⟨p, hp, rfl⟩ := List.mem_map.1 h
  have hp := (List.mem_filter.1 hp).1
  rcases List.mem_append.1 hp with hp | hp
  · obtain ⟨x, hx, hp⟩ := List.mem_flatMap.1 hp
    obtain ⟨i, c, e1, e2, lc⟩ := hs.fac x hx
    have hp : p ∈ [(x.ind.toNat, x.con.n.toNat)] := hp
    rw [List.mem_singleton] at hp
    subst hp; show x.con.n.toNat < b.kz; unfold Bas.kz; omega
  · obtain ⟨x, hx, hp⟩ := List.mem_flatMap.1 hp
    obtain ⟨r, i, k, e0, lr, e1, e2⟩ := hs.lnk x hx
    have hp : p ∈ [(x.fr.toNat, b.kc + 2 * x.role.toNat), (x.to.toNat, b.kc + (2 * x.role.toNat + 1))] := hp
    rcases List.mem_cons.1 hp with rfl | hp
    · show b.kc + 2 * x.role.toNat < b.kz; unfold Bas.kz; omega
    · rw [List.mem_singleton] at hp
      subst hp; show b.kc + (2 * x.role.toNat + 1) < b.kz; unfold Bas.kz; omega
/-- What is named by one is named by the other. -/
theorem isV_abs {b : Bas} {N : Nat} {R : Ru} {L : List Nat} {x : Nat} (hz : R.sz = b.kz) (hx : x < b.kz) (hL : ∀ d ∈ L, d < b.kz) (f3 : ∀ {i k : Nat}, i < b.kz → k < b.kz → rch N (phi b i) (phi b k) = R.U i k) : (L.map (phi b)).any (fun d => rch N d (phi b x)) = belK R L x := by
  unfold belK
  rw [List.any_map, hz, decide_eq_true hx]
  simp only [Bool.true_and]
  refine anyC fun d hd => ?_
  exact f3 (hL d hd) hx
theorem belK_iff {R : Ru} {L : List Nat} {x : Nat} : belK R L x = true ↔ x < R.sz ∧ ∃ d ∈ L, R.U d x = true := by
  unfold belK
  rw [List.any_eq_true]
  simp only [Bool.and_eq_true, decide_eq_true_eq]
  exact ⟨fun ⟨d, h, h1, h2⟩ => ⟨h1, d, h, h2⟩, fun ⟨h1, d, h, h2⟩ => ⟨d, h, h1, h2⟩⟩
theorem clash_bel {R : Ru} {L : List Nat} : clash R (belK R L) (belK R L) = true ↔ ∃ c ∈ L, ∃ d ∈ L, clash R (R.U c) (R.U d) = true := by
  unfold clash
  simp only [List.any_eq_true, List.mem_range, Bool.and_eq_true, belK_iff]
  constructor
  · rintro ⟨x, hx, y, hy, ⟨⟨-, c, hc, h1⟩, -, d, hd, h2⟩, h3⟩
    exact ⟨c, hc, d, hd, x, hx, y, hy, ⟨h1, h2⟩, h3⟩
  · rintro ⟨c, hc, d, hd, x, hx, y, hy, ⟨h1, h2⟩, h3⟩
    exact ⟨x, hx, y, hy, ⟨⟨hx, c, hc, h1⟩, hy, d, hd, h2⟩, h3⟩
/-- One individual's statements agree in one just if they do in the other. -/
theorem cons_abs {b : Bas} {N : Nat} {R : Ru} {L : List Nat} (hz : R.sz = b.kz) (hL : ∀ d ∈ L, d < b.kz) (f1 : ∀ {x : Nat}, x < b.kz → emp N (phi b x) = R.E x) (f2 : ∀ {x y : Nat}, x < b.kz → y < b.kz → confl N (phi b x) (phi b y) = clash R (R.U x) (R.U y))
    (hsym : ∀ c d, confl N c d = confl N d c) (hrefl : ∀ {x : Nat}, x < b.kz → R.U x x = true) (hc1 : ∀ {x : Nat}, x < b.kz → clash R (R.U x) (R.U x) = true → R.E x = true) (hc2 : ∀ {x y : Nat}, x < b.kz → y < b.kz → R.U x y = true → R.E y = true → R.E x = true) :
    sndA N [] (L.map (phi b)) = consI' R L := by
  rw [Bool.eq_iff_iff, sndA_iff]
  unfold consI'
  simp only [Bool.and_eq_true, Bool.not_eq_true']
  constructor
  · rintro ⟨h1, -, h3⟩
    have e1 : ∀ d ∈ L, R.E d = false := fun d hd => by rw [← f1 (hL d hd)]; exact h1 _ (List.mem_map.2 ⟨d, hd, rfl⟩)
    constructor
    · rw [Bool.eq_false_iff]
      intro q
      obtain ⟨c, hc, d, hd, q⟩ := clash_bel.1 q
      rw [← f2 (hL c hc) (hL d hd)] at q
      rw [List.pairwise_map] at h3
      obtain ⟨p, hp, rfl⟩ := List.getElem_of_mem hc
      obtain ⟨r, hr, rfl⟩ := List.getElem_of_mem hd
      have hpw := List.pairwise_iff_getElem.1 h3
      rcases Nat.lt_trichotomy p r with h | h | h
      · have := hpw p r hp hr h
        rw [hsym] at this; rw [this] at q; cases q
      · subst h
        rw [f2 (hL _ hc) (hL _ hc)] at q
        have := hc1 (hL _ hc) q
        rw [e1 _ hc] at this; cases this
      · have := hpw r p hr hp h
        rw [this] at q; cases q
    · rw [Bool.eq_false_iff]
      intro q
      rw [List.any_eq_true] at q
      obtain ⟨x, hx, q⟩ := q
      rw [List.mem_range, hz] at hx
      rw [Bool.and_eq_true, belK_iff] at q
      obtain ⟨⟨-, d, hd, hu⟩, he⟩ := q
      have := hc2 (hL d hd) hx hu he
      rw [e1 d hd] at this; cases this
  · rintro ⟨h1, h2⟩
    have e1 : ∀ d ∈ L, R.E d = false := fun d hd => by
      cases q : R.E d with
      | false => rfl
      | true =>
        exfalso
        rw [Bool.eq_false_iff] at h2
        apply h2
        rw [List.any_eq_true]
        refine ⟨d, List.mem_range.2 (by rw [hz]; exact hL d hd), ?_⟩
        rw [Bool.and_eq_true, belK_iff]
        exact ⟨⟨by rw [hz]; exact hL d hd, d, hd, hrefl (hL d hd)⟩, q⟩
    have e2 : ∀ c ∈ L, ∀ d ∈ L, confl N (phi b c) (phi b d) = false := fun c hc d hd => by
      cases q : confl N (phi b c) (phi b d) with
      | false => rfl
      | true =>
        exfalso
        rw [f2 (hL c hc) (hL d hd)] at q
        rw [clash_bel.2 ⟨c, hc, d, hd, q⟩] at h1; cases h1
    refine ⟨fun c hc => ?_, fun d hd => (List.not_mem_nil hd).elim, ?_⟩
    · obtain ⟨d, hd, rfl⟩ := List.mem_map.1 hc
      rw [f1 (hL d hd)]; exact e1 d hd
    · rw [List.pairwise_map, List.pairwise_iff_getElem]
      intro p r hp hr _
      exact e2 _ (List.getElem_mem hr) _ (List.getElem_mem hp)
theorem allC {l : List Nat} {p q : Nat → Bool} (h : ∀ x ∈ l, p x = q x) : l.all p = l.all q := by
  induction l with
  | nil => rfl
  | cons x l ih => rw [List.all_cons, List.all_cons, h x List.mem_cons_self, ih fun y hy => h y (List.mem_cons_of_mem _ hy)]
section
variable {b : Bas} (hR : basR b = true) (hf : fitR b = true)
include hR hf
theorem OE_closed {i : Nat} (hi : i < b.kz) (h : OV b (OE b) i = true) : OE b i = true := vdG_closed (OV b) b.kz hi h
theorem soundB_ref (q : Nat) : soundB b = consR (RuB b q) b := by
  have h2 := basR_few2 hR
  have hs := said2_of hR hf
  unfold soundB sndD consR
  refine allC fun i _ => ?_
  rw [stD_ref hs h2]
  exact cons_abs (b := b) (N := rulesN b) (R := RuB b q) (L := refL b i) rfl (fun d hd => refL_lt hs hd) (fun hx => (emp_phi hR hf hx).trans (congrFun ruOf_E.symm _)) (fun hx hy => (confl_phi hR hf hx hy (OE b)).trans (by rw [ruOf_U]; exact ruOf_clash)) (fun c d => confl_symm (aSym_rules (basR_lite hR))) (fun hx => by rw [ruOf_U]; exact OU_refl hR hf hx)
    (fun hx h => by
      rw [ruOf_E]
      rw [ruOf_U] at h
      refine OE_closed hR hf hx ((OV_iff hR hf hx).2 (.inl ?_))
      rw [confl_phi hR hf hx hx (OE b)]
      exact ruOf_clash.trans h)
    (fun hx hy h1 h3 => by
      rw [ruOf_E] at h3 ⊢
      rw [ruOf_U] at h1
      exact OE_closed hR hf hx ((OV_iff hR hf hx).2 (.inr (.inl ⟨_, hy, h1, h3⟩))))
theorem isV_ref (q : Nat) {c : Con} {i : Nat} (hc : basC c = true) (hcs : shaped b.nms.cs.length b.nms.rs.length c = true) : isV b i (numC c).toNat = belK (RuB b q) (refL b i) (idN b c) := by
  have h2 := basR_few2 hR
  have hs := said2_of hR hf
  unfold isV
  rw [stD_ref hs h2, numC_phi hc hcs]
  exact isV_abs (R := RuB b q) rfl (idN_ok hc hcs).2 (fun d hd => refL_lt hs hd) (fun hi hk => by rw [ruOf_U]; exact rch_phi hR hf hi hk)
end
theorem pairF_ref {b : Bas} (hR : basR b = true) (hf : fitR b = true) {role fr to : Nat} (lr : role < b.kr) : b.links.any (pairF (rulesN b) role fr to) = b.links.any (linkF (OB b) role fr to) := by
  have hs := said2_of hR hf
  rw [Bool.eq_iff_iff, List.any_eq_true, List.any_eq_true]
  have key : ∀ l ∈ b.links, pairF (rulesN b) role fr to l = linkF (OB b) role fr to l := fun l hl => by
    obtain ⟨r, i, k, e0, lr', e1, e2⟩ := hs.lnk l hl
    have er : l.role.toNat = r := by omega
    unfold pairF linkF
    rw [er, rol_eq hR (by omega) lr, rol_eq hR (by omega) lr, Bool.and_comm (decide (l.to = fr))]
  exact ⟨fun ⟨l, hl, h⟩ => ⟨l, hl, by rw [← key l hl]; exact h⟩, fun ⟨l, hl, h⟩ => ⟨l, hl, by rw [key l hl]; exact h⟩⟩
end Go.Proofs.YtkcbhebbjpiibaaDoor.Pg
