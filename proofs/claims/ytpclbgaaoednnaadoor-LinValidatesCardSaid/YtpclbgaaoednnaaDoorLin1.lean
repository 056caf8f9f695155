/-
  Linear forms: LinRight of the base package and the reference's Validate.
-/
import Derived.Test.YtpclbgaaoednnaaDoorLin0
namespace Go.Proofs.YtpclbgaaoednnaaDoor
set_option linter.unusedSimpArgs false
open Go.ChangeShapes Go.WideShapes Go.ChangeAt Go.RowKit
set_option linter.unusedVariables false

set_option maxHeartbeats 4000000 in
theorem base_LinRight (K : Int) (v : Value) (l : List Mono) (w : World) (hv : MonosAt w v l) :
    Calls Tryd.prog 14 #[.agg #[.int .i64 K, v]] w fun e w' => e = .returned (.bool (okL l)) ∧ Up w w' := by
  obtain ⟨⟨a, cap, rfl, h0, hc⟩, hmax⟩ := hv
  obtain ⟨r, hr⟩ : ∃ r, okL l = r := ⟨_, rfl⟩
  rw [hr]
  obtain ⟨n, hn⟩ : ∃ n, l.length = n := ⟨_, rfl⟩
  rw [hn] at h0 hc hmax ⊢
  have HN := Lib.hid hn
  have HR := Lib.hid hr
  have HC := Lib.hid hc
  have H0 := Lib.hid h0
  clear hr hn hc h0
  go_enter Tryd.func14, Tryd.ntmps14
  go_wp2
  obtain ⟨W1, hW1⟩ : ∃ W1, w.alloc (.cells #[.int .i64 K, .slice a n cap] 24) = W1 := ⟨_, rfl⟩
  rw [hW1]
  have HU1 : Hid (Up w W1) := Lib.hid (hW1 ▸ (Up.refl w).alloc _)
  obtain ⟨B, hB⟩ : ∃ B, w.heap.size = B := ⟨_, rfl⟩
  have hrow : W1.heap[B]? = some (.cells #[.int .i64 K, .slice a n cap] 24 (0, 0)) := by
    rw [← hW1, ← hB]; exact heap_alloc_new w _
  have hsz1 : W1.heap.size = B + 1 := by rw [← hW1, size_alloc, hB]
  have HROW := Lib.hid hrow
  clear hrow hW1
  try rw [hB]
  have HB := Lib.hid hB
  clear hB
  go_loopw [3] (fun i wr => ∃ k : Nat, k ≤ n ∧ i = .int .i64 k ∧ Up W1 wr ∧ okFrom (prevAt l k) (l.drop k) = r) (fun i _ => n - (intOf i).toNat)
  case atStart => exact ⟨0, by omega, rfl, Up.refl _, by rw [List.drop_zero]; exact HR.out⟩
  case round =>
    rename_i wr
    obtain ⟨k, hk, rfl, hU, hP⟩ := hrel
    have HP := Lib.hid hP
    clear hP
    have hU2 := HU1.out.trans hU
    have d1 : wr.cell? ⟨B, 1, none⟩ = some (.slice a n cap) := (hU.cell _ _ (by omega)).trans (cell_of_row _ _ _ _ _ _ HROW.out)
    by_cases hlt : k < n
    · have hlt2 : (k : Int) < (n : Int) := by omega
      have hk0 : (0 : Int) ≤ (k : Int) := by omega
      obtain ⟨x, rfl⟩ : ∃ x, a = some x := by
        cases a with
        | none => exact absurd (H0.out rfl) (by omega)
        | some x => exact ⟨x, rfl⟩
      obtain ⟨g1, g2, g3⟩ := HC.out x rfl (by omega)
      obtain ⟨bl, off, sp⟩ := x
      have g1' : sp = none := g1
      subst g1'
      obtain ⟨s, b, hm⟩ : ∃ s b, l.getD k m0 = (s, b) := ⟨_, _, rfl⟩
      have g4 : ∀ i j, i < n → j < 2 → wr.cell? ⟨bl, off + i * 2 + j, none⟩ = some (monoF l i j) := fun i j hi hj => (hU2.cell _ _ g2).trans (g3 i j hi hj)
      obtain ⟨c0, c1⟩ := mono_at n g4 hlt hm
      have hs1 := hU.size
      have hs2 := hU2.size
      have g2' : bl < w.heap.size := g2
      have q1 : bl < wr.heap.size := by omega
      have q2 : B < wr.heap.size := by omega
      have hdrop := drop_mono (by rw [HN.out]; exact hlt) hm
      have HM := Lib.hid hm
      have G4 := Lib.hid g4
      clear g3 hm g4 g2 g2'
      have HP1 : Hid ((nameB s.toList && decide (b ≠ 0) && prevOk (prevAt l k) s.toList && okFrom (some s.toList) (l.drop (k + 1))) = r) := Lib.hid (by rw [← HP.out, hdrop]; rfl)
      clear hdrop
      obtain ⟨nb, hnb⟩ : ∃ q, nameB s.toList = q := ⟨_, rfl⟩
      rw [hnb] at HP1
      have HID : Hid (∀ w : World, Calls Tryd.prog 30 #[.string s] w fun e w' => e = .returned (.bool nb) ∧ Up w w') := Lib.hid fun w => by
        rw [← hnb]
        exact base_Name s w
      clear hnb HP
      cases nb
      · have HF : Hid (false = r) := Lib.hid (by rw [← HP1.out]; rfl)
        go_wp2_with fail
        refine wp_region_ext (by kernel_rfl) (by kernel_rfl) ?_
        repeat (go_big_quiet_step ((go_at_call 30; exact Calls.ext_of (HID.out _))))
        refine wpQuiet_nil ?_
        intro x hx
        go_wp2
        go_ret
        exact ⟨ret_bool HF.out, hU2.trans hx⟩
      by_cases hb : b = 0
      · subst hb
        have HF : Hid (false = r) := Lib.hid (by rw [← HP1.out]; rfl)
        go_wp2_with fail
        refine wp_region_ext (by kernel_rfl) (by kernel_rfl) ?_
        repeat (go_big_quiet_step ((go_at_call 30; exact Calls.ext_of (HID.out _))))
        refine wpQuiet_nil ?_
        intro x hx
        go_wp2
        go_ret
        exact ⟨ret_bool HF.out, hU2.trans hx⟩
      have hb2 : (b == 0) = false := by simpa using hb
      have HP2 : Hid ((prevOk (prevAt l k) s.toList && okFrom (some s.toList) (l.drop (k + 1))) = r) := Lib.hid (by
        rw [← HP1.out]
        simp [hb])
      clear HP1
      cases k with
      | zero =>
        simp only [Nat.zero_mul, Nat.add_zero] at c0 c1
        have HG : Hid (okFrom (prevAt l (0 + 1)) (l.drop (0 + 1)) = r) := Lib.hid (by
          rw [← HP2.out]
          show okFrom (some (l.getD 0 m0).1.toList) _ = _
          rw [HM.out]; rfl)
        clear HP2
        go_wp2_with fail
        refine wp_region_ext (by kernel_rfl) (by kernel_rfl) ?_
        repeat (go_big_quiet_step ((go_at_call 30; exact Calls.ext_of (HID.out _))))
        refine wpQuiet_nil ?_
        intro x hx
        go_wp2
        go_roundw
        case rel => exact ⟨0 + 1, by omega, by go_num, hU.trans hx, HG.out⟩
        case measure => simp [intOf]; omega
      | succ j =>
        obtain ⟨s', b', hm'⟩ : ∃ s b, l.getD j m0 = (s, b) := ⟨_, _, rfl⟩
        obtain ⟨c2, c3⟩ := mono_at n G4.out (by omega : j < n) hm'
        obtain ⟨q, hq⟩ : ∃ q, Op.bytesLess s'.toList s.toList = q := ⟨_, rfl⟩
        have HP3 : Hid ((q && okFrom (some s.toList) (l.drop (j + 1 + 1))) = r) := Lib.hid (by
          rw [← HP2.out]
          show _ = (Op.bytesLess (l.getD j m0).1.toList s.toList && _)
          rw [hm', hq])
        have hkp : (0 : Int) < ((j + 1 : Nat) : Int) := by omega
        have hkm : ((j + 1 : Nat) : Int) - 1 = (j : Int) := by omega
        have hj0 : (0 : Int) ≤ (j : Int) := by omega
        have hjn : (j : Int) < (n : Int) := by omega
        clear HP2 hm'
        cases q
        · have HF : Hid (false = r) := Lib.hid (by rw [← HP3.out]; rfl)
          go_wp2_with fail
          refine wp_region_ext (by kernel_rfl) (by kernel_rfl) ?_
          repeat (go_big_quiet_step ((go_at_call 30; exact Calls.ext_of (HID.out _))))
          refine wpQuiet_nil ?_
          intro x hx
          go_wp2
          go_ret
          exact ⟨ret_bool HF.out, hU2.trans hx⟩
        · have HG : Hid (okFrom (prevAt l (j + 1 + 1)) (l.drop (j + 1 + 1)) = r) := Lib.hid (by
            rw [← HP3.out]
            show okFrom (some (l.getD (j + 1) m0).1.toList) _ = _
            rw [HM.out]; rfl)
          clear HP3
          go_wp2_with fail
          refine wp_region_ext (by kernel_rfl) (by kernel_rfl) ?_
          repeat (go_big_quiet_step ((go_at_call 30; exact Calls.ext_of (HID.out _))))
          refine wpQuiet_nil ?_
          intro x hx
          go_wp2
          go_roundw
          case rel => exact ⟨j + 1 + 1, by omega, by go_num, hU.trans hx, HG.out⟩
          case measure => simp [intOf]; omega
    · have hlt2 : (n : Int) ≤ (k : Int) := by omega
      obtain rfl : r = true := by rw [← HP.out, List.drop_eq_nil_of_le (by rw [HN.out]; omega)]; rfl
      go_wp2
      go_ret
      exact ⟨rfl, hU2⟩
theorem r05_Validate (K : Int) (v : Value) (l : List Mono) (w : World) (hv : MonosAt w v l) :
    Calls Tryd.prog 7 #[.agg #[.int .i64 K, v]] w fun e w' => e = .returned (.int .i64 (errOf (okL l))) ∧ Up w w' := by
  obtain ⟨r, hr⟩ : ∃ r, okL l = r := ⟨_, rfl⟩
  have hc := fun w h => base_LinRight K v l w h
  rw [hr] at hc ⊢
  have HV := Lib.hid hv
  obtain ⟨⟨a, cap, rfl, _, _⟩, _⟩ := hv
  have HC := Lib.hid hc
  clear hc hr
  go_enter Tryd.func7, Tryd.ntmps7
  go_wp2_with fail
  refine (HC.out _ (HV.out.up (by first | exact Up.refl _ | exact (Up.refl _).alloc _))).mono ?_
  rintro e x1 ⟨rfl, hx1⟩
  cases r
  · go_wp2
    go_ret
    exact ⟨rfl, by first | exact hx1 | exact ((Up.refl w).alloc _).trans hx1⟩
  · go_wp2
    go_ret
    exact ⟨rfl, by first | exact hx1 | exact ((Up.refl w).alloc _).trans hx1⟩
end Go.Proofs.YtpclbgaaoednnaaDoor

