/-
  The table of opcodes, as the rows list it.
-/
import Derived.Test.YtbpojmhgifgfdaaDoorPeX
import Derived.LaidMore
import Derived.MakeChecks
import Derived.OpenShut
import Derived.FnData
import Derived.Lib.LaidTab
namespace Go.Proofs.YtbpojmhgifgfdaaDoor
open Go.ChangeShapes Go.WideShapes Go.ChangeAt Go.RowKit
set_option linter.unusedVariables false
set_option linter.unusedSimpArgs false
set_option maxRecDepth 100000

theorem laid_rows : ∃ Dl : List (DataW Unit), Rows.laid_brocade_isa_opcodes = .agg Dl ∧ ∀ i, i < 17 → ∃ s, Dl[i]? = some (.agg [.lit (.string s), Lib.tabData .i64 (tabF i)]) := by
  refine ⟨_, rfl, fun i hi => ?_⟩
  rcases (by omega : i = 0 ∨ i = 1 ∨ i = 2 ∨ i = 3 ∨ i = 4 ∨ i = 5 ∨ i = 6 ∨ i = 7 ∨ i = 8 ∨ i = 9 ∨ i = 10 ∨ i = 11 ∨ i = 12 ∨ i = 13 ∨ i = 14 ∨ i = 15 ∨ i = 16) with rfl | rfl | rfl | rfl | rfl | rfl | rfl | rfl | rfl | rfl | rfl | rfl | rfl | rfl | rfl | rfl | rfl <;> exact ⟨_, rfl⟩

theorem tab_of {W : World} (h : laidMetH Tryd.prog [("brocade/isa.opcodes", Rows.laid_brocade_isa_opcodes)] W) : ITab W := by
  rw [Go.MakeChecks.laidMetH_plain _ _ _ (by kernel_rfl)] at h
  obtain ⟨ps, hv, _⟩ := h
  obtain ⟨g', t', cs, fuel, p, q, hg', ht', hvar, hd, _, _⟩ := hv
  have e0 : Tryd.prog.globalNamed "brocade/isa.opcodes" = some 0 := by kernel_rfl
  obtain rfl := Option.some.inj (e0.symm.trans hg')
  have e : (Tryd.prog.globals[0]?).map (·.type) = some 108 := by kernel_rfl
  obtain rfl := Option.some.inj (e.symm.trans ht')
  have hcell := fun off => World.var?_cell hg' hvar off
  obtain ⟨Dl, hDl, hrow⟩ := laid_rows
  rw [hDl] at hd
  obtain ⟨xs, m, _, hx, hcl, hlen, hat⟩ := DataW.trod_array Tryd.underlying108 hd
  have hx1 : Dl = xs.map (·.1) := by
    have := congrArg Prod.fst hx
    injection this
  have c6 : Tryd.prog.cellsOf 107 = 6 := by kernel_rfl
  rw [c6] at hat
  refine ⟨?_, fun i j hi hj => ?_⟩
  · have h0 := hcell 0
    have hsz : 0 < cs.size := by
      have h1 : cs.toList.length = 102 := hcl.trans (by kernel_rfl)
      rw [Array.length_toList] at h1
      omega
    rw [Array.getElem?_eq_getElem hsz] at h0
    exact World.block_lt_of_cell? _ _ h0
  · obtain ⟨s, hs⟩ := hrow i hi
    have h1 := hat i hi
    rw [hx1, List.getElem?_map] at hs
    obtain ⟨y, hy, hy1⟩ := Option.map_eq_some_iff.1 hs
    rw [hy] at h1
    obtain ⟨xs2, m2, _, hx2, _, hlen2, hg2⟩ := DataW.trod_struct Tryd.underlying107 h1
    have hl2 : xs2.length = 2 := hlen2
    have h3 := (hg2 1 _ rfl).trans (List.getElem?_eq_getElem (by omega : 1 < xs2.length))
    have h4 : (xs2[1]'(by omega)).1 = Lib.tabData .i64 (tabF i) := by
      rw [hx2] at hy1
      have h5 : xs2.map (·.1) = [.lit (.string s), Lib.tabData .i64 (tabF i)] := by
        injection hy1
      have h6 := congrArg (·[1]?) h5
      simp only [List.getElem?_map] at h6
      rw [List.getElem?_eq_getElem (by omega : 1 < xs2.length)] at h6
      simpa using h6
    have h7 := Lib.cells_of_tab (n := 5) (e := 3) (zs := tabF i) (p := (xs2[1]'(by omega)).2) Tryd.underlying105 Tryd.underlying3 (by kernel_rfl) (by kernel_rfl) (h3.trans (by rw [← h4]))
    have h8 : List.take 5 (List.drop 1 (List.take 6 (List.drop (i * 6) cs.toList))) = (tabF i).map fun z => Value.int .i64 z := h7
    have h9 := congrArg (·[j]?) h8
    have hl5 := tabF_len i hi
    simp only [List.getElem?_take, List.getElem?_drop, hj, if_true, List.getElem?_map] at h9
    rw [if_pos (by omega), List.getElem?_eq_getElem (by omega : j < (tabF i).length)] at h9
    rw [hcell, ← Array.getElem?_toList, show i * 6 + 1 + j = i * 6 + (1 + j) by omega, h9, List.getD_eq_getElem?_getD, List.getElem?_eq_getElem (by omega : j < (tabF i).length)]
    rfl
end Go.Proofs.YtbpojmhgifgfdaaDoor
