/-
  Coeff of the reference: the coefficient of the first monomial of a name.
-/
import Derived.Test.YtahlecmlhdikjaaDoorGb

namespace Go.Proofs.YtahlecmlhdikjaaDoor
open Go.ChangeShapes Go.WideShapes Go.ChangeAt Go.RowKit
set_option linter.unusedVariables false

def coefF (s : List UInt8) : List Mono → Int
  | [] => 0
  | m :: r => if m.1.toList == s then m.2 else coefF s r

set_option maxHeartbeats 2000000 in
theorem r05_Coeff (K : Int) (s : ByteArray) (v : Value) (l : List Mono) (w : World) (hv : MonosAt w v l) :
    Calls Tryd.prog 90 #[.agg #[.int .i64 K, v], .string s] w fun e w' => e = .returned (.int .i64 (coefF s.toList l)) ∧ Up w w' := by
  have hmax := hv.max
  obtain ⟨a, cap, rfl⟩ := hv.slice
  obtain ⟨sl, hsl⟩ : ∃ x, s.toList = x := ⟨_, rfl⟩
  obtain ⟨r, hr⟩ : ∃ r, coefF s.toList l = r := ⟨_, rfl⟩
  rw [hr]
  rw [hsl] at hr
  obtain ⟨n, hn⟩ : ∃ n, l.length = n := ⟨_, rfl⟩
  rw [hn] at hv hmax ⊢
  have HN := Lib.hid hn
  have HR := Lib.hid hr
  have HV := Lib.hid hv
  clear hr hn hv
  go_enter Tryd.func90, Tryd.ntmps90
  go_wp2
  obtain ⟨W1, hW1⟩ : ∃ W1, w.alloc (.cells #[.int .i64 K, .slice a n cap] 24) = W1 := ⟨_, rfl⟩
  rw [hW1]
  have HU1 : Hid (Up w W1) := Lib.hid (hW1 ▸ (Up.refl w).alloc _)
  obtain ⟨B, hB⟩ : ∃ B, w.heap.size = B := ⟨_, rfl⟩
  have hrow : W1.heap[B]? = some (.cells #[.int .i64 K, .slice a n cap] 24 (0, 0)) := by
    rw [← hW1, ← hB]; exact heap_alloc_new w _
  have hsz1 : W1.heap.size = B + 1 := by rw [← hW1, size_alloc, hB]
  have HROW := Lib.hid hrow
  clear hrow hW1
  rw [hB]
  have HB := Lib.hid hB
  clear hB
  go_loopw [5] (fun i wr => ∃ k : Nat, k ≤ n ∧ i = .int .i64 k ∧ Up W1 wr ∧ coefF sl (l.drop k) = r) (fun i _ => n - (intOf i).toNat)
  case atStart => exact ⟨0, by omega, rfl, Up.refl _, by rw [List.drop_zero]; exact HR.out⟩
  case round =>
    rename_i wr
    obtain ⟨k, hk, rfl, hU1, hP⟩ := hrel
    have HP := Lib.hid hP
    clear hP
    have hU := HU1.out.trans hU1
    have d1 : wr.cell? ⟨B, 1, none⟩ = some (.slice a n cap) := (hU1.cell _ _ (by omega)).trans (cell_of_row _ _ _ _ _ _ HROW.out)
    have hs1 := hU1.size
    have q3 : B < wr.heap.size := by omega
    by_cases hlt : k < n
    · have hlt2 : (k : Int) < (n : Int) := by omega
      have hk0 : (0 : Int) ≤ (k : Int) := by omega
      obtain ⟨bl, off, s', b, rfl, p1, p2, p3, p4⟩ := HV.out.elem hU k (by rw [HN.out]; exact hlt) HN.out rfl
      obtain ⟨q, hq⟩ : ∃ q, (s'.toList == sl) = q := ⟨_, rfl⟩
      have HP2 : Hid ((if q then b else coefF sl (l.drop (k + 1))) = r) := Lib.hid (by
        rw [← HP.out, drop_mono (by rw [HN.out]; exact hlt) p2, ← hq]; rfl)
      clear p2 HP
      cases q
      · have hq2 : ¬ s'.toList = sl := by simpa using hq
        have HG : Hid (coefF sl (l.drop (k + 1)) = r) := Lib.hid (by rw [← HP2.out]; rfl)
        go_wp2
        go_roundw
        case rel => exact ⟨k + 1, by omega, by go_num, hU1, HG.out⟩
        case measure => simp [intOf]; omega
      · have hq2 : s'.toList = sl := by simpa using hq
        have HG : Hid (b = r) := Lib.hid (by rw [← HP2.out]; rfl)
        go_wp2
        go_ret
        exact ⟨ret_int HG.out, hU⟩
    · have hlt2 : (n : Int) ≤ (k : Int) := by omega
      obtain rfl : r = 0 := by rw [← HP.out, List.drop_eq_nil_of_le (by rw [HN.out]; omega)]; rfl
      go_wp2
      go_ret
      exact ⟨rfl, hU⟩
end Go.Proofs.YtahlecmlhdikjaaDoor
