/-
  Pg, part 17: slices that grow, bytes of strings, lists of lists.
-/
import Derived.Test.YtkcbhebbjpiibaaDoorPgD
set_option linter.unusedVariables false
set_option linter.unusedSimpArgs false
set_option linter.unusedSectionVars false
set_option linter.defProp false
namespace Go.Proofs.YtkcbhebbjpiibaaDoor.Pg
open Go
/-! ### Slices that grow -/
def CanApp (j0 j : JH) (tok : Tok) (es n : Nat) : Prop := (tok = .nil ∧ n = 0) ∨ ∃ t, j0.tnext ≤ t ∧ t < j.tnext ∧ tok = .own t 0 es ∧ j.tok t = some n
theorem CanApp.nil {j0 j : JH} {es : Nat} : CanApp j0 j .nil es 0 := .inl ⟨rfl, rfl⟩
theorem CanApp.push {j0 j : JH} {tok : Tok} {es n F : Nat} (h : CanApp j0 j tok es n) : CanApp j0 (j.pushTok F) tok es n := by
  rcases h with h | ⟨t, h1, h2, h3, h4⟩
  · exact .inl h
  · refine .inr ⟨t, h1, Nat.lt_succ_of_lt h2, h3, ?_⟩
    show (if t = j.tnext then some F else j.tok t) = _
    rw [if_neg (by omega)]; exact h4
theorem SubB.can {j0 j : JH} {tok : Tok} {es n no : Nat} {cs : List AV} (h : CanApp j0 j tok es n) (p : AV.pures cs = true) : SubB no j.tnext (.sl tok n cs) (.sl tok n cs) := by
  rcases h with ⟨rfl, rfl⟩ | ⟨t, h1, h2, rfl, h4⟩
  · exact SubB.pure (by simp only [AV.pure]; exact p)
  · exact SubB.own h2 (SubBs.pure p)
theorem JAPP.can {j0 j : JH} {objs : List AObj} {es bytes n m : Nat} {tok tok' : Tok} {cs cs' : List AV} {K : AV → JH → Prop} (h : CanApp j0 j tok es n) (ht : TokExt j0 j)
    (h1 : cs.length = n * es) (h2 : cs'.length = m * es) (h3 : cs'.all AV.one = true) (h4 : (n + m) * bytes ≤ 140737488355328) (h5 : n + m ≤ 9223372036854775807) (hm : m ≠ 0)
    (k : ∀ tok1 j1, CanApp j0 j1 tok1 es (n + m) → TokExt j0 j1 → j.tnext ≤ j1.tnext → K (.sl tok1 (n + m) (cs ++ cs')) (ext j1 objs)) : @JAPP (ext j objs) es bytes (.sl tok n cs) (.sl tok' m cs') ⟨K⟩ := by
  refine ⟨⟨h1, h2, h3, h4, h5⟩, fun e => absurd e hm, fun _ => ?_⟩
  rcases h with ⟨rfl, rfl⟩ | ⟨t, q1, q2, rfl, q4⟩
  · have hcs : cs = [] := List.eq_nil_of_length_eq_zero (by rw [h1, Nat.zero_mul])
    subst hcs
    have := k (.own j.tnext 0 es) (j.pushTok m) (.inr ⟨j.tnext, ht.tnext, Nat.lt_succ_self _, rfl, by show (if j.tnext = j.tnext then some m else _) = _; rw [if_pos rfl, Nat.zero_add]⟩) (ht.push m) (Nat.le_succ _)
    rw [Nat.zero_add] at this; exact this
  · refine ⟨⟨by rw [ext_tok, Nat.zero_add]; exact q4, rfl⟩, ?_⟩
    have := k (.own t 0 es) (j.setTok t (n + m)) (.inr ⟨t, q1, q2, rfl, by show (if t = t then some (n + m) else _) = _; rw [if_pos rfl]⟩) (ht.setT q1 _) (Nat.le_refl _)
    rw [Nat.zero_add]; exact this
theorem JDropH.nextT {j0 j j1 j2 : JH} {l m n : List AObj} (h0 : TokExt j0 j) (h2 : TokExt j0 j2) (h : TokExt j2 j1) (ht : j.tnext ≤ j2.tnext) (hl : LSub (pid j0.next n.length) j2.tnext l m n) : JDropH (ext j l) (ext j1 m) (ext j2 n) := by
  have e : j2.next = j.next := h2.next.trans h0.next.symm
  refine JDropH.next h e ht (fun o ob ho q => .inl ?_) (by rw [h0.next]; exact hl)
  rw [h0.next] at ho
  rw [h2.get o ho] at q; rw [h0.get o ho]; exact q
theorem JDropH.refl' {j0 j : JH} {l : List AObj} : JDropH (ext j l) (ext j l) (ext j l) := JDropH.refl _

/-! ### Bytes -/
abbrev bs (s : ByteArray) : List UInt8 := s.data.toList
theorem bs_len (s : ByteArray) : (bs s).length = s.size := by simp [bs]
theorem byte_at {s : ByteArray} {k : Nat} {b : UInt8} {l : List UInt8} (h : (bs s).drop k = b :: l) : s[k]? = some b := by
  have h1 : (bs s)[k]? = some b := by
    have := congrArg (·[0]?) h
    simpa using this
  have hlt : k < s.size := by
    rw [← bs_len]
    rcases Nat.lt_or_ge k (bs s).length with q | q
    · exact q
    · rw [List.getElem?_eq_none q] at h1; cases h1
  rw [getElem?_pos s k hlt]
  have h2 : (bs s)[k]? = some (s.data[k]'hlt) := by simp [bs]
  rw [h2] at h1
  simpa [ByteArray.getElem_eq_getElem_data] using h1
abbrev U8 (x : Int) : AV := .v (.int .u8 x)

/-! ### Lists of lists of strings -/
def SE (l : List ByteArray) : List AV := [.sl .none l.length (strs l)]
theorem d_se {l : List ByteArray} {r : List (List ByteArray)} : encs SE (l :: r) = .sl .none l.length (strs l) :: encs SE r := rfl
theorem d_se2 {l : List ByteArray} {cs : List AV} : SE l ++ cs = .sl .none l.length (strs l) :: cs := rfl
theorem d_sed {l : List (List ByteArray)} {k : Nat} : (encs SE l).drop k = encs SE (l.drop k) := by
  have := encs_drop (e := SE) (n := 1) (fun _ => rfl) l k; simpa using this
theorem d_sel {l : List (List ByteArray)} : (encs SE l).length = l.length := by
  have := encs_length (e := SE) (n := 1) (fun _ => rfl) l; simpa using this
theorem SE.pur (l : List (List ByteArray)) : AV.pures (encs SE l) = true := encs_pur (fun l => by simp [SE, AV.pures, AV.pure, strs_pur]) l
def je := And.intro @d_se2 (And.intro @d_sed @d_sel)
end Go.Proofs.YtkcbhebbjpiibaaDoor.Pg
