/-
  ready of the reference 20. Printed by mkDgY.py.
-/
import Derived.Test.YtpccaifhcmcegaaDgP
namespace Go.Proofs.Ytpccaifhcmcegaa
set_option linter.unusedSimpArgs false
open Go.ChangeShapes Go.WideShapes Go.ChangeAt Go.RowKit
set_option linter.unusedVariables false
set_option maxRecDepth 100000

theorem Rk.const {α : Type} {k : Nat} {R : Rel α} (h : Rk k R) (w0 : World) : Rk k (fun _ => R w0) := ⟨fun _ _ _ _ h _ => h, fun _ f g x => h.congr w0 f g x, fun _ => h.one w0⟩
/-- A definition of a list whose elements read in an elder world. -/
theorem LsAt.dfc {N : Nat} {w0 w : World} {a : Option Addr} {n c : Nat} {l : List Df} (h : LsAt 22 272 (fun _ => defR N w0) w (.slice a n c) l) (i : Nat) (hi : i < l.length) :
    ∃ (g o : Nat) (cs : Array Value), a = some ⟨g, o, none⟩ ∧ g < w.heap.size ∧ CsAt 22 (defR N) w0 cs l[i] ∧ (∀ y, Up w y → (Instr.loadAt 59 (.pointer (some ⟨g, o + i * 22, none⟩))).run Try.prog y = .ok (.agg cs) y) ∧ cs.getD 0 undef = .string l[i].nm ∧ l[i].nm.size ≤ maxLen ∧ ∀ y, Up w y → y.cell? ⟨g, o + i * 22, none⟩ = some (.string l[i].nm) := by
  obtain ⟨g, o, cs, e, hg, hc, hr⟩ := h.row ((defR_k N).const w0) i hi
  have h0 : cs.getD 0 undef = .string l[i].nm := hc.2.1.1
  refine ⟨g, o, cs, e, hg, hc, fun y hy => run_def hc.1 (hr y hy), h0, hc.2.1.2, fun y hy => ?_⟩
  have := hr y hy 0 (.string l[i].nm) (by
    rw [← h0, Array.getElem?_toList, Array.getD_eq_getD_getElem?, Array.getElem?_eq_getElem (by rw [hc.1]; decide)]; rfl)
  exact this
/-- A definition reads no name of a list. -/
def rdyB (l : List Df) (d : Df) : Bool := !(l.any fun x => has (readsF d.body) x.nm)
theorem rdy_drop {l : List Df} {R : List ByteArray} {i n : Nat} (hn : l.length = n) (hi : i < n) : ((l.drop i).any fun x => has R x.nm) = (has R (l[i]'(by omega)).nm || (l.drop (i + 1)).any fun x => has R x.nm) := by
  rw [drop_eq hn hi, List.any_cons]

set_option maxHeartbeats 8000000 in
theorem r20_ready (N : Nat) (w0 : World) (l : List Df) (d : Df) (lv v : Value) (w : World) (hl : LsAt 22 272 (fun _ => defR N w0) w lv l) (hv : DefAt N w v d) (ht : tot d.body ≤ 1500) (r : Bool) (hr : rdyB l d = r) :
    Calls Try.prog 41 #[lv, v] w fun e w' => e = .returned (.bool r) ∧ Up w w' := by
  obtain ⟨la, lc, rfl, -⟩ := hl.shape
  obtain ⟨ln, hln⟩ : ∃ q, l.length = q := ⟨_, rfl⟩
  rw [hln] at hl ⊢
  have hlI : (ln : Int) ≤ 140737488351232 := by have := hl.bytes; rw [hln] at this; omega
  obtain ⟨cs, rfl, hd⟩ := id hv
  have HL := Lib.hid hl
  have HLN := Lib.hid hln
  obtain ⟨R, hR⟩ : ∃ R, readsF d.body = R := ⟨_, rfl⟩
  have HRD := Lib.hid (fun y (hy : Up w y) => r20_Reads N d _ y (hv.up hy) ht)
  rw [hR] at HRD
  have HRR : Hid (((l.drop 0).any fun x => has R x.nm) = !r) := Lib.hid (by rw [← hr, ← hR]; unfold rdyB; rw [Bool.not_not]; rfl)
  have HU0 : Hid (Up w (w.alloc (.cells cs 59))) := Lib.hid ((Up.refl w).alloc _)
  have HLD := Lib.hid (run_def hd.1 (BoxC.new w 59 cs).range)
  clear hv hd hl hln ht hr hR
  go_enter Try.func41, Try.ntmps41
  go_wp2_with (first
    | (refine st_load HLD.out (by rfl) ?_)
    | (go_at_call 32; (with_reducible refine (HRD.out _ HU0.out).mono ?_); rintro e' W1 ⟨u, rfl, hy, hu⟩; have HW1 := Lib.hid (HU0.out.trans hy); have HLS := Lib.hid hu.1; clear hy hu))
  go_loopw [6] (fun iv wr => ∃ i : Nat, iv = .int .i64 i ∧ i ≤ ln ∧ wr = W1 ∧ ((l.drop i).any fun x => has R x.nm) = !r) (fun iv _ => ln - (intOf iv).toNat)
  case atStart => exact ⟨0, rfl, Nat.zero_le _, rfl, HRR.out⟩
  case round =>
    obtain ⟨i, rfl, hi, hw, hP⟩ := hrel
    replace hw := hw.symm
    subst hw
    have HP := Lib.hid hP
    clear hP HRR
    by_cases hlt : i < ln
    · have hltI : (i : Int) < ln := by omega
      have hi1 : i < l.length := by rw [HLN.out]; exact hlt
      obtain ⟨g, o, ds, rfl, hg, -, -, -, hsz, hc⟩ := HL.out.dfc i hi1
      have HDR := Lib.hid (rdy_drop (R := R) HLN.out hlt)
      obtain ⟨x, hx⟩ : ∃ x, l[i].nm = x := ⟨_, rfl⟩
      rw [hx] at HDR hsz hc
      have hc1 := hc _ HW1.out
      have hg' := Nat.lt_of_lt_of_le hg HW1.out.size
      obtain ⟨b, hb⟩ : ∃ b, has R x = b := ⟨_, rfl⟩
      have HB := Lib.hid hb
      clear hx hc hi1 hsz hg hb
      cases b
      · have HN : Hid (((l.drop (i + 1)).any fun x => has R x.nm) = !r) := Lib.hid (by rw [← HP.out, HDR.out, HB.out]; rfl)
        go_wp2_with (go_at_call 27; (with_reducible refine (base_Has x R _ _ HLS.out false HB.out).mono ?_); rintro e' x' ⟨rfl, hx'⟩; rw [hx']; clear hx' x')
        go_roundw
        case rel => exact ⟨i + 1, by go_num, by omega, trivial, HN.out⟩
        case measure => simp [intOf]; omega
      · have HN : Hid (r = false) := Lib.hid (by have := HP.out; rw [HDR.out, HB.out] at this; cases r <;> simp_all)
        go_wp2_with (go_at_call 27; (with_reducible refine (base_Has x R _ _ HLS.out true HB.out).mono ?_); rintro e' x' ⟨rfl, hx'⟩; rw [hx']; clear hx' x')
        go_ret
        exact ⟨ret_bool HN.out.symm, HW1.out⟩
    · obtain rfl : ln = i := by omega
      have HN : Hid (r = true) := Lib.hid (by have := HP.out; rw [List.drop_of_length_le (by rw [HLN.out]; exact Nat.le_refl _)] at this; cases r <;> simp_all)
      go_wp2
      go_ret
      exact ⟨ret_bool HN.out.symm, HW1.out⟩
end Go.Proofs.Ytpccaifhcmcegaa
