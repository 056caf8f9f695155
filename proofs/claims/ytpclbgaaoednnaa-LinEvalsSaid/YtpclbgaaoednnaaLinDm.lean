/-
  The reference's wide integers: less and minus.
-/
import Derived.Test.YtpclbgaaoednnaaLinDp
namespace Go.Proofs.Ytpclbgaaoednnaa
open Go.ChangeShapes Go.WideShapes Go.ChangeAt Go.RowKit
set_option linter.unusedVariables false

set_option maxHeartbeats 4000000 in
theorem r05_less (A E : Nat → Int) (hA : Dig6 A) (hE : Dig6 E) (w : World) :
    Calls Try.prog 54 #[.agg #[.int .u64 (A 0), .int .u64 (A 1), .int .u64 (A 2), .int .u64 (A 3), .int .u64 (A 4), .int .u64 (A 5)], .agg #[.int .u64 (E 0), .int .u64 (E 1), .int .u64 (E 2), .int .u64 (E 3), .int .u64 (E 4), .int .u64 (E 5)]] w fun e w' => e = .returned (.bool (decide (val6 A < val6 E))) ∧ Up w w' := by
  obtain ⟨r, hr⟩ : ∃ r, decide (val6 A < val6 E) = r := ⟨_, rfl⟩
  rw [hr]
  have HR := Lib.hid hr
  have HA := Lib.hid hA
  have HE := Lib.hid hE
  clear hr hA hE
  have hw6 := W6.new w A 73
  obtain ⟨B, hBe⟩ : ∃ B, w.heap.size = B := ⟨_, rfl⟩
  have HBe := Lib.hid hBe
  obtain ⟨W1, hW1⟩ : ∃ W1, w.alloc (.cells #[.int .u64 (A 0), .int .u64 (A 1), .int .u64 (A 2), .int .u64 (A 3), .int .u64 (A 4), .int .u64 (A 5)] 73) = W1 := ⟨_, rfl⟩
  have hw7 := W6.new W1 E 73
  obtain ⟨W2, hW2⟩ : ∃ W2, W1.alloc (.cells #[.int .u64 (E 0), .int .u64 (E 1), .int .u64 (E 2), .int .u64 (E 3), .int .u64 (E 4), .int .u64 (E 5)] 73) = W2 := ⟨_, rfl⟩
  have hU1 : Up w W1 := hW1 ▸ (Up.refl w).alloc _
  have hs1 : W1.heap.size = B + 1 := by rw [← hW1, size_alloc, hBe]
  have hU2 : Up W1 W2 := hW2 ▸ (Up.refl W1).alloc _
  rw [hW1, hBe] at hw6
  rw [hW2, hs1] at hw7
  have HWA := Lib.hid (hw6.up hU2)
  have HWE := Lib.hid hw7
  have HW1 := Lib.hid hW1
  have HW2 := Lib.hid hW2
  have HU := Lib.hid (hU1.trans hU2)
  clear hBe hw6 hw7 hW1 hW2 hU1 hU2 hs1
  go_enter Try.func54, Try.ntmps54
  go_wp2
  rw [HBe.out, HW1.out, HW2.out]
  go_loopw [5] (fun i wr => ∃ (k : Nat) (z : Int), k ≤ 6 ∧ i = .int .i64 z ∧ z + 1 = k ∧ Up W2 wr ∧ ∀ j, k ≤ j → j < 6 → A j = E j) (fun i _ => ((intOf i) + 1).toNat)
  case atStart => exact ⟨6, 5, by omega, rfl, rfl, Up.refl _, fun j h1 h2 => by omega⟩
  case round =>
    rename_i wr
    obtain ⟨k, z, hk, rfl, hz, hU, hP⟩ := hrel
    have HP := Lib.hid hP
    clear hP
    cases k with
    | zero =>
      obtain rfl : z = -1 := by omega
      obtain rfl : r = false := by
        rw [← HR.out]
        exact less_end fun j hj => HP.out j (by omega) hj
      clear hz
      go_wp2
      go_ret
      exact ⟨rfl, HU.out.trans hU⟩
    | succ k =>
      obtain rfl : z = (k : Int) := by omega
      have hk0 : (0 : Int) ≤ (k : Int) := by omega
      have hk6 : k < 6 := by omega
      have hk7 : (k : Int) < 6 := by omega
      have ca := (HWA.out.up hU).cell k hk6
      have ce := (HWE.out.up hU).cell k hk6
      have l1 := (HWA.out.up hU).lt
      have l2 := (HWE.out.up hU).lt
      obtain ⟨a0, a1⟩ := HA.out.at hk6
      obtain ⟨e0, e1⟩ := HE.out.at hk6
      have HL := Lib.hid (less_at HA.out HE.out k hk6 (fun j h1 h2 => HP.out j (by omega) h2))
      obtain ⟨x, hx⟩ : ∃ x, A k = x := ⟨_, rfl⟩
      obtain ⟨y, hy⟩ : ∃ y, E k = y := ⟨_, rfl⟩
      rw [hx] at ca a0 a1 HL
      rw [hy] at ce e0 e1 HL
      have HX := Lib.hid hx
      have HY := Lib.hid hy
      clear hz hx hy
      by_cases hxy : x = y
      · subst hxy
        have hb : (x == x) = true := by simp
        have HN : Hid (∀ j, k ≤ j → j < 6 → A j = E j) := Lib.hid fun j h1 h2 => by
          by_cases h : j = k
          · subst h; rw [HX.out, HY.out]
          · exact HP.out j (by omega) h2
        clear HL
        go_wp2_with fail
        refine wp_region_ext (by kernel_rfl) (by kernel_rfl) ?_
        repeat (go_big_quiet_step (fail))
        refine wpQuiet_nil ?_
        intro x1 hx1
        go_wp2
        go_roundw
        case rel => exact ⟨k, (k : Int) - 1, by omega, rfl, by omega, hU.trans hx1, HN.out⟩
        case measure => simp [intOf]; try omega
      · have hb : (x == y) = false := by simpa using hxy
        have hb2 : (x != y) = true := by simpa using hxy
        obtain ⟨q, hq⟩ : ∃ q, decide (x < y) = q := ⟨_, rfl⟩
        obtain rfl : q = r := by rw [← HR.out, ← HL.out hxy, hq]
        have HQ := Lib.hid hq
        clear hq HL
        go_wp2_with fail
        refine wp_region_ext (by kernel_rfl) (by kernel_rfl) ?_
        repeat (go_big_quiet_step (fail))
        refine wpQuiet_nil ?_
        intro x1 hx1
        have ca := (HWA.out.up (hU.trans hx1)).cell k hk6
        have l1 := (HWA.out.up (hU.trans hx1)).lt
        have l2 := (HWE.out.up (hU.trans hx1)).lt
        have ce := (HWE.out.up (hU.trans hx1)).cell k hk6
        rw [HX.out] at ca
        rw [HY.out] at ce
        go_wp2_with fail
        refine wp_region_ext (by kernel_rfl) (by kernel_rfl) ?_
        repeat (go_big_quiet_step (fail))
        refine wpQuiet_nil ?_
        intro x2 hx2
        go_wp2
        go_ret
        exact ⟨ret_bool HQ.out, HU.out.trans ((hU.trans hx1).trans hx2)⟩

theorem upd_upd (D : Nat → Int) (k : Nat) (x y : Int) : updD (updD D k x) k y = updD D k y := by
  funext j; unfold updD; split <;> rfl
theorem W6.congr {w : World} {b : Nat} {D E : Nat → Int} (h : W6 w b D) (e : D = E) : W6 w b E := e ▸ h

set_option maxHeartbeats 4000000 in
theorem r05_minus (A E : Nat → Int) (hA : Dig6 A) (hE : Dig6 E) (T : Int) (hT : val6 A - val6 E = T) (hle : val6 E ≤ val6 A) (w : World) :
    Calls Try.prog 55 #[.agg #[.int .u64 (A 0), .int .u64 (A 1), .int .u64 (A 2), .int .u64 (A 3), .int .u64 (A 4), .int .u64 (A 5)], .agg #[.int .u64 (E 0), .int .u64 (E 1), .int .u64 (E 2), .int .u64 (E 3), .int .u64 (E 4), .int .u64 (E 5)]] w fun e w' => WideIs T e ∧ Up w w' := by
  have HT := Lib.hid hT
  have HLE := Lib.hid hle
  have HA := Lib.hid hA
  have HE := Lib.hid hE
  clear hT hle hA hE
  have hw6 := W6.new w A 73
  obtain ⟨B, hBe⟩ : ∃ B, w.heap.size = B := ⟨_, rfl⟩
  have HBe := Lib.hid hBe
  obtain ⟨W1, hW1⟩ : ∃ W1, w.alloc (.cells #[.int .u64 (A 0), .int .u64 (A 1), .int .u64 (A 2), .int .u64 (A 3), .int .u64 (A 4), .int .u64 (A 5)] 73) = W1 := ⟨_, rfl⟩
  have hw7 := W6.new W1 E 73
  obtain ⟨W2, hW2⟩ : ∃ W2, W1.alloc (.cells #[.int .u64 (E 0), .int .u64 (E 1), .int .u64 (E 2), .int .u64 (E 3), .int .u64 (E 4), .int .u64 (E 5)] 73) = W2 := ⟨_, rfl⟩
  obtain ⟨W3, hW3⟩ : ∃ W3, W2.alloc (.cells #[.int .u64 0, .int .u64 0, .int .u64 0, .int .u64 0, .int .u64 0, .int .u64 0] 73) = W3 := ⟨_, rfl⟩
  have hU1 : Up w W1 := hW1 ▸ (Up.refl w).alloc _
  have hs1 : W1.heap.size = B + 1 := by rw [← hW1, size_alloc, hBe]
  have hU2 : Up W1 W2 := hW2 ▸ (Up.refl W1).alloc _
  have hs2 : W2.heap.size = B + 1 + 1 := by rw [← hW2, size_alloc, hs1]
  have hU3 : Up W2 W3 := hW3 ▸ (Up.refl W2).alloc _
  have hs3 : W3.heap.size = B + 1 + 1 + 1 := by rw [← hW3, size_alloc, hs2]
  have h0 : W6 W3 (B + 1 + 1) (fun _ => 0) := by rw [← hW3, ← hs2]; exact W6.new0 _ _
  rw [hW1, hBe] at hw6
  rw [hW2, hs1] at hw7
  have HWA := Lib.hid ((hw6.up hU2).up hU3)
  have HWE := Lib.hid (hw7.up hU3)
  have HW1 := Lib.hid hW1
  have HW2 := Lib.hid hW2
  have HW3 := Lib.hid hW3
  have HZ := Lib.hid h0
  have HS3 := Lib.hid hs3
  have HU := Lib.hid ((hU1.trans hU2).trans hU3)
  clear hBe hw6 hw7 hW1 hW2 hU1 hU2 hs1 hs2 hs3 hU3 h0 hW3
  go_enter Try.func55, Try.ntmps55
  go_wp2
  rw [HBe.out, HW1.out, HW2.out, HW3.out]
  go_loopw [5, 6] (fun bv iv wr => ∃ (k : Nat) (b : Int) (D : Nat → Int), k ≤ 6 ∧ bv = .int .u64 b ∧ iv = .int .i64 k ∧ (b = 0 ∨ b = 1) ∧ Dig6 D ∧ val6 D = val6 A - low6 E k + b * pw k ∧ W6 wr B D ∧ UpBut B W3 wr) (fun _ iv _ => 6 - (intOf iv).toNat)
  case atStart => exact ⟨0, 0, A, by omega, rfl, rfl, Or.inl rfl, HA.out, by simp [low6], HWA.out, UpBut.refl _ _⟩
  case round =>
    rename_i wr
    obtain ⟨k, b, D, hk, rfl, rfl, hb, hD, hP, hW, hBt⟩ := hrel
    have HP := Lib.hid hP
    have HD := Lib.hid hD
    have HW := Lib.hid hW
    have HBt := Lib.hid hBt
    have lt := hW.lt
    have fz := hW.fz
    have b0 : 0 ≤ b := by omega
    have b1 : b ≤ 1 := by omega
    have hs3 := HS3.out
    have hsw := hBt.size
    clear hP hD hBt hb
    by_cases hk6 : k < 6
    · have hk7 : (k : Int) < 6 := by omega
      have hk0 : (0 : Int) ≤ (k : Int) := by omega
      have ca := hW.cell k hk6
      have ce := (HWE.out.but HBt.out (by omega)).cell k hk6
      obtain ⟨a0, a1⟩ := HD.out.at hk6
      obtain ⟨e0, e1⟩ := HE.out.at hk6
      have HST := Lib.hid (fun b' => minus_step D E k hk6 b b' (val6 A) HP.out)
      obtain ⟨x, hx⟩ : ∃ x, D k = x := ⟨_, rfl⟩
      obtain ⟨y, hy⟩ : ∃ y, E k = y := ⟨_, rfl⟩
      rw [hx] at ca a0 a1 HST
      rw [hy] at ce e0 e1 HST
      have hlt1 : B < wr.heap.size := by omega
      have HX := Lib.hid hx
      clear hx hy hW hs3
      have y0 : 0 ≤ y + b := by omega
      have y1 : y + b ≤ 4294967296 := by omega
      by_cases hxy : x < y + b
      · have z1 : x + 4294967296 - (y + b) < 4294967296 := by omega
        have z0 : 0 ≤ x + 4294967296 - (y + b) := by omega
        have HD2 := Lib.hid (HD.out.upd k _ ⟨z0, z1⟩)
        have HST2 : Hid (val6 (updD D k (x + 4294967296 - (y + b))) = val6 A - low6 E (k + 1) + 1 * pw (k + 1)) := Lib.hid (by
          have := HST.out 1
          rw [Int.one_mul 4294967296] at this; exact this)
        go_wp2
        go_roundw
        case rel =>
          refine ⟨k + 1, 1, updD D k (x + 4294967296 - (y + b)), by omega, rfl, by go_num, Or.inr rfl, HD2.out, HST2.out, ?_, ?_⟩
          · exact ((HW.out.set k hk6 _).set k hk6 _).congr (upd_upd _ _ _ _)
          · exact (HBt.out.setCell _ _ _).setCell _ _ _
        case measure => simp [intOf]; omega
      · have z1 : x - (y + b) < 4294967296 := by omega
        have z0 : 0 ≤ x - (y + b) := by omega
        have HD2 := Lib.hid (HD.out.upd k _ ⟨z0, z1⟩)
        have HST2 : Hid (val6 (updD D k (x - (y + b))) = val6 A - low6 E (k + 1) + 0 * pw (k + 1)) := Lib.hid (by
          have := HST.out 0
          rw [Int.zero_mul 4294967296, Int.add_zero x] at this; exact this)
        go_wp2
        go_roundw
        case rel =>
          refine ⟨k + 1, 0, updD D k (x - (y + b)), by omega, rfl, by go_num, Or.inl rfl, HD2.out, HST2.out, ?_, ?_⟩
          · exact HW.out.set k hk6 _
          · exact HBt.out.setCell _ _ _
        case measure => simp [intOf]; omega
    · have hk7 : (6 : Int) ≤ (k : Int) := by omega
      obtain rfl : k = 6 := by omega
      obtain ⟨d0, d1, d2, d3, d4, d5⟩ := hW.six
      have hzz := HZ.out.but HBt.out (by omega)
      obtain ⟨z0, z1, z2, z3, z4, z5⟩ := hzz.six
      have fz2 := hzz.fz
      have hlz := hzz.lt
      clear hW hzz hs3
      go_wp2
      refine bodyPost_ret (v := .agg #[.int .u64 (D 0), .int .u64 (D 1), .int .u64 (D 2), .int .u64 (D 3), .int .u64 (D 4), .int .u64 (D 5)]) (by simp [results, Try.results55, go_sem, z0, z1, z2, z3, z4, z5]) rfl ⟨⟨D, rfl, HD.out, (minus_end HD.out HA.out b0 HP.out HLE.out).trans HT.out⟩, ?_⟩
      have hq : w.heap.size ≤ B + 1 + 1 := by rw [HBe.out]; omega
      have hb := UpBut.up HU.out (by rw [HBe.out]; omega) HBt.out
      iterate 6 refine Up.setCell ?_ hq _
      exact hb

/-- The digits of a number. -/
def wd (T : Int) (k : Nat) : Int := match k with
  | 0 => T % 4294967296
  | 1 => T / 4294967296 % 4294967296
  | 2 => T / 18446744073709551616 % 4294967296
  | 3 => T / 79228162514264337593543950336 % 4294967296
  | 4 => T / 340282366920938463463374607431768211456 % 4294967296
  | _ => T / 1461501637330902918203684832716283019655932542976 % 4294967296
theorem wd_dig (T : Int) : Dig6 (wd T) := by
  refine ⟨?_, ?_, ?_, ?_, ?_, ?_⟩ <;> (unfold dig wd; simp only; omega)
theorem wd_val (T : Int) (h0 : 0 ≤ T) (h1 : T < 6277101735386680763835789423207666416102355444464034512896) : val6 (wd T) = T := by
  unfold val6; simp only [wd]; omega
theorem dig_unique {D E : Nat → Int} (hD : Dig6 D) (hE : Dig6 E) (h : val6 D = val6 E) : D 0 = E 0 ∧ D 1 = E 1 ∧ D 2 = E 2 ∧ D 3 = E 3 ∧ D 4 = E 4 ∧ D 5 = E 5 := by
  obtain ⟨⟨a0, b0⟩, ⟨a1, b1⟩, ⟨a2, b2⟩, ⟨a3, b3⟩, ⟨a4, b4⟩, ⟨a5, b5⟩⟩ := hD
  obtain ⟨⟨c0, d0⟩, ⟨c1, d1⟩, ⟨c2, d2⟩, ⟨c3, d3⟩, ⟨c4, d4⟩, ⟨c5, d5⟩⟩ := hE
  unfold val6 at h
  omega
theorem WideIs.eq {T : Int} {e : Ending} (h : WideIs T e) (h0 : 0 ≤ T) (h1 : T < 6277101735386680763835789423207666416102355444464034512896) : e = .returned (.agg #[.int .u64 (wd T 0), .int .u64 (wd T 1), .int .u64 (wd T 2), .int .u64 (wd T 3), .int .u64 (wd T 4), .int .u64 (wd T 5)]) := by
  obtain ⟨D, rfl, hD, hv⟩ := h
  obtain ⟨e0, e1, e2, e3, e4, e5⟩ := dig_unique hD (wd_dig T) (hv.trans (wd_val T h0 h1).symm)
  rw [e0, e1, e2, e3, e4, e5]

theorem r05_plusV (V a b T : Int) (V0 : 0 ≤ V) (a0 : 0 ≤ a) (a1 : a < 18446744073709551616) (b0 : 0 ≤ b) (b1 : b < 18446744073709551616) (hT : V + a * b = T) (hB : T < 6277101735386680763835789423207666416102355444464034512896) (w : World) :
    Calls Try.prog 51 #[.agg #[.int .u64 (wd V 0), .int .u64 (wd V 1), .int .u64 (wd V 2), .int .u64 (wd V 3), .int .u64 (wd V 4), .int .u64 (wd V 5)], .int .u64 a, .int .u64 b] w fun e w' => e = .returned (.agg #[.int .u64 (wd T 0), .int .u64 (wd T 1), .int .u64 (wd T 2), .int .u64 (wd T 3), .int .u64 (wd T 4), .int .u64 (wd T 5)]) ∧ Up w w' := by
  have hab : 0 ≤ a * b := Int.mul_nonneg a0 b0
  refine (r05_plus (wd V) (wd_dig V) a b a0 a1 b0 b1 T (by rw [wd_val V V0 (by omega)]; exact hT) hB w).mono fun e w' ⟨h1, h2⟩ => ⟨h1.eq (by omega) hB, h2⟩
theorem r05_lessV (V U : Int) (V0 : 0 ≤ V) (V1 : V < 6277101735386680763835789423207666416102355444464034512896) (U0 : 0 ≤ U) (U1 : U < 6277101735386680763835789423207666416102355444464034512896) (w : World) :
    Calls Try.prog 54 #[.agg #[.int .u64 (wd V 0), .int .u64 (wd V 1), .int .u64 (wd V 2), .int .u64 (wd V 3), .int .u64 (wd V 4), .int .u64 (wd V 5)], .agg #[.int .u64 (wd U 0), .int .u64 (wd U 1), .int .u64 (wd U 2), .int .u64 (wd U 3), .int .u64 (wd U 4), .int .u64 (wd U 5)]] w fun e w' => e = .returned (.bool (decide (V < U))) ∧ Up w w' := by
  have := r05_less (wd V) (wd U) (wd_dig V) (wd_dig U) w
  rw [wd_val V V0 V1, wd_val U U0 U1] at this
  exact this
theorem r05_minusV (V U T : Int) (V1 : V < 6277101735386680763835789423207666416102355444464034512896) (U0 : 0 ≤ U) (hle : U ≤ V) (hT : V - U = T) (w : World) :
    Calls Try.prog 55 #[.agg #[.int .u64 (wd V 0), .int .u64 (wd V 1), .int .u64 (wd V 2), .int .u64 (wd V 3), .int .u64 (wd V 4), .int .u64 (wd V 5)], .agg #[.int .u64 (wd U 0), .int .u64 (wd U 1), .int .u64 (wd U 2), .int .u64 (wd U 3), .int .u64 (wd U 4), .int .u64 (wd U 5)]] w fun e w' => e = .returned (.agg #[.int .u64 (wd T 0), .int .u64 (wd T 1), .int .u64 (wd T 2), .int .u64 (wd T 3), .int .u64 (wd T 4), .int .u64 (wd T 5)]) ∧ Up w w' := by
  have e1 := wd_val V (by omega) V1
  have e2 := wd_val U U0 (by omega)
  exact (r05_minus (wd V) (wd U) (wd_dig V) (wd_dig U) T (by rw [e1, e2]; exact hT) (by rw [e1, e2]; exact hle) w).mono fun e w' ⟨h1, h2⟩ => ⟨h1.eq (by omega) (by omega), h2⟩
/-- The number of the lower two digits, or a number that is too great. -/
theorem wd_small (T : Int) (h0 : 0 ≤ T) (h1 : T < 6277101735386680763835789423207666416102355444464034512896) (h : T < 18446744073709551616) : wd T 2 = 0 ∧ wd T 3 = 0 ∧ wd T 4 = 0 ∧ wd T 5 = 0 ∧ wd T 0 + wd T 1 * 4294967296 = T := by
  simp only [wd]; omega
theorem wd_great (T : Int) (h0 : 0 ≤ T) (h1 : T < 6277101735386680763835789423207666416102355444464034512896) (h : ¬ T < 18446744073709551616) :
    wd T 2 ≠ 0 ∨ (wd T 2 = 0 ∧ wd T 3 ≠ 0) ∨ (wd T 2 = 0 ∧ wd T 3 = 0 ∧ wd T 4 ≠ 0) ∨ (wd T 2 = 0 ∧ wd T 3 = 0 ∧ wd T 4 = 0 ∧ wd T 5 ≠ 0) := by
  simp only [wd]; omega
end Go.Proofs.Ytpclbgaaoednnaa
