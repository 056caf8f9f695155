/-
  The program of the chapter's examples: what the functions compute of it.
-/
import Derived.Test.YtpccaifhcmcegaaDgK
import Derived.Test.YtpccaifhcmcegaaDgVp
import Derived.Test.YtpccaifhcmcegaaDgTp
namespace Go.Proofs.Ytpccaifhcmcegaa
set_option linter.unusedSimpArgs false
open Go.ChangeShapes Go.WideShapes Go.ChangeAt Go.RowKit
set_option linter.unusedVariables false
set_option maxRecDepth 100000

/-- Each name of the list can be reached: by a given one, or by what lies behind it on the list. -/
def chkS (all : List ByteArray) (D : List Df) (fr : List ByteArray) : List ByteArray → Bool
  | [] => true
  | x :: r => chkS all D fr r && (has all x && (has fr x || r.any fun z => has (inF D z) x))
theorem chkS_ok {all : List ByteArray} {D : List Df} {fr : List ByteArray} : ∀ {S : List ByteArray}, chkS all D fr S = true → ∀ x ∈ S, Rch all D fr x
  | [], _, x, h => absurd h (by simp)
  | y :: r, h, x, hx => by
    simp only [chkS, Bool.and_eq_true, Bool.or_eq_true] at h
    obtain ⟨h1, h2, h3⟩ := h
    rcases List.mem_cons.1 hx with rfl | hx
    · rcases h3 with h3 | h3
      · exact .base (has_iff.1 h3) (has_iff.1 h2)
      · obtain ⟨z, hz, h4⟩ := List.any_eq_true.1 h3
        exact .step (chkS_ok h1 z hz) (has_iff.1 h4) (has_iff.1 h2)
    · exact chkS_ok h1 x hx
/-- The list holds all that can be reached. -/
def cloS (all : List ByteArray) (D : List Df) (fr S : List ByteArray) : Bool := (fr.all fun x => !has all x || has S x) && S.all fun x => (inF D x).all fun y => !has all y || has S y
theorem cloS_ok {all : List ByteArray} {D : List Df} {fr S : List ByteArray} (h : cloS all D fr S = true) {x : ByteArray} (hx : Rch all D fr x) : x ∈ S := by
  unfold cloS at h
  rw [Bool.and_eq_true, List.all_eq_true, List.all_eq_true] at h
  induction hx with
  | base h1 h2 =>
    have := h.1 _ h1
    rw [has_iff.2 h2] at this
    exact has_iff.1 (by simpa using this)
  | step _ h1 h2 ih =>
    have := List.all_eq_true.1 (h.2 _ ih) _ h1
    rw [has_iff.2 h2] at this
    exact has_iff.1 (by simpa using this)
theorem rchF_eq {p : Pg} {fr : List ByteArray} (S : List ByteArray) (h1 : chkS (ordF p) p.defs fr S = true) (h2 : cloS (ordF p) p.defs fr S = true) : rchF p fr = (ordF p).filter (has S) := by
  unfold rchF
  refine List.filter_congr fun x _ => ?_
  rw [Bool.eq_iff_iff, cdec_iff, has_iff]
  exact ⟨cloS_ok h2, chkS_ok h1 x⟩
def bA : ByteArray := ⟨#[97]⟩
def bB : ByteArray := ⟨#[98]⟩
def bC : ByteArray := ⟨#[99]⟩
def bD : ByteArray := ⟨#[100]⟩
def rdE (s : ByteArray) : Ex := .mk 3 s 0 0 (0, 0, 0, 0, 0) (0, []) [] []
def exT : Typ := (1, 0, 0, 0, 0)
def exP : Pg := ⟨[], [], [(bA, exT, [])], [⟨bB, exT, [], [], 0, rdE bA⟩, ⟨bC, exT, [], [], 0, rdE bB⟩, ⟨bD, exT, [], [], 0, rdE bA⟩], [bC]⟩
theorem ex_rchC : rchF exP [bC] = [bA, bB, bC] := by
  rw [rchF_eq [bA, bB, bC] (by decide +kernel) (by decide +kernel)]
  decide +kernel
theorem ex_rchA : rchF exP [bA] = [bA] := by
  rw [rchF_eq [bA] (by decide +kernel) (by decide +kernel)]
  decide +kernel
theorem ex_rchB : rchF exP [bB] = [bA, bB] := by
  rw [rchF_eq [bA, bB] (by decide +kernel) (by decide +kernel)]
  decide +kernel
theorem ex_btw : btwF exP bA bC = [bA, bB, bC] := by
  unfold btwF
  rw [ex_rchC]
  simp only [List.filter_cons, ex_rchA, ex_rchB, ex_rchC]
  decide +kernel
theorem ex_lv : lvF exP.defs = [[bB, bD], [bC]] := by decide +kernel
theorem ex_in : inF exP.defs bC = [bB] := by decide +kernel
theorem ex_cons : consF exP.defs bA = [bB, bD] := by decide +kernel
theorem ex_topo : ∃ l, topoL exP.defs.length exP.defs [] = some l ∧ l.length = 3 := by
  have h : ((topoL exP.defs.length exP.defs []).map (·.length)) = some 3 := by decide +kernel
  cases e : topoL exP.defs.length exP.defs [] with
  | none => rw [e] at h; cases h
  | some l => rw [e] at h; exact ⟨l, rfl, by simpa using h⟩
theorem ex_rm : (rmF exP).defs.length = 2 := by
  unfold rmF
  show (exP.defs.filter fun d => has (rchF exP [bC]) d.nm).length = 2
  rw [ex_rchC]
  decide +kernel
theorem ex_tot : ∀ d ∈ exP.defs, tot d.body ≤ 1500 := by
  intro d hd
  have h : (exP.defs.all fun d => decide (tot d.body ≤ 1500)) = true := by decide +kernel
  exact of_decide_eq_true (List.all_eq_true.1 h d hd)
end Go.Proofs.Ytpccaifhcmcegaa
