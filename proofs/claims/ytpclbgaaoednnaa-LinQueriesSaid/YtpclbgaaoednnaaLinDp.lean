/-
  The reference's wide integers: plus, size, find.
-/
import Derived.Test.YtpclbgaaoednnaaLinDw
namespace Go.Proofs.Ytpclbgaaoednnaa
open Go.ChangeShapes Go.WideShapes Go.ChangeAt Go.RowKit
set_option linter.unusedVariables false

theorem wrap_mul32 (x y : Int) (x0 : 0 ≤ x) (x1 : x ≤ 4294967295) (y0 : 0 ≤ y) (y1 : y ≤ 4294967295) : IntKind.u64.wrap (x * y) = x * y := by
  obtain ⟨h0, h1⟩ := mul_bd32 x y x0 x1 y0 y1
  rw [IntKind.wrap_u64]; omega

theorem plus_bd (a b V T : Int) (hV : 0 ≤ V) (hT : V + a * b = T) (a0 : 0 ≤ a) (a1 : a < 18446744073709551616) (b0 : 0 ≤ b) (b1 : b < 18446744073709551616) :
    ∃ p q r s : Int, (a % 4294967296) * (b % 4294967296) = p ∧ (a % 4294967296) * (b / 4294967296) = q ∧ (a / 4294967296) * (b % 4294967296) = r ∧ (a / 4294967296) * (b / 4294967296) = s ∧ (0 ≤ p ∧ p < 18446744073709551616) ∧ (0 ≤ q ∧ q < 18446744073709551616) ∧ (0 ≤ r ∧ r < 18446744073709551616) ∧ (0 ≤ s ∧ s < 18446744073709551616) ∧ V + p + q * 4294967296 + r * 4294967296 + s * 18446744073709551616 = T := by
  obtain ⟨p0, p1⟩ := mul_bd32 (a % 4294967296) (b % 4294967296) (by omega) (by omega) (by omega) (by omega)
  obtain ⟨q0, q1⟩ := mul_bd32 (a % 4294967296) (b / 4294967296) (by omega) (by omega) (by omega) (by omega)
  obtain ⟨r0, r1⟩ := mul_bd32 (a / 4294967296) (b % 4294967296) (by omega) (by omega) (by omega) (by omega)
  obtain ⟨s0, s1⟩ := mul_bd32 (a / 4294967296) (b / 4294967296) (by omega) (by omega) (by omega) (by omega)
  have h := halves a b
  refine ⟨_, _, _, _, rfl, rfl, rfl, rfl, by omega, by omega, by omega, by omega, ?_⟩
  omega

set_option maxHeartbeats 8000000 in
theorem r05_plus (D : Nat → Int) (hD : Dig6 D) (a b : Int) (a0 : 0 ≤ a) (a1 : a < 18446744073709551616) (b0 : 0 ≤ b) (b1 : b < 18446744073709551616) (T : Int) (hT : val6 D + a * b = T) (hB : T < 6277101735386680763835789423207666416102355444464034512896) (w : World) :
    Calls Try.prog 51 #[.agg #[.int .u64 (D 0), .int .u64 (D 1), .int .u64 (D 2), .int .u64 (D 3), .int .u64 (D 4), .int .u64 (D 5)], .int .u64 a, .int .u64 b] w fun e w' => WideIs T e ∧ Up w w' := by
  obtain ⟨p, q, r, s, e1, e2, e3, e4, ⟨p0, p1⟩, ⟨q0, q1⟩, ⟨r0, r1⟩, ⟨s0, s1⟩, hsum⟩ := plus_bd a b (val6 D) T (val6_bd hD).1 hT a0 a1 b0 b1
  have f1 : IntKind.u64.wrap ((a % 4294967296) * (b % 4294967296)) = p := by rw [wrap_mul32 _ _ (by omega) (by omega) (by omega) (by omega)]; exact e1
  have f2 : IntKind.u64.wrap ((a % 4294967296) * (b / 4294967296)) = q := by rw [wrap_mul32 _ _ (by omega) (by omega) (by omega) (by omega)]; exact e2
  have f3 : IntKind.u64.wrap ((a / 4294967296) * (b % 4294967296)) = r := by rw [wrap_mul32 _ _ (by omega) (by omega) (by omega) (by omega)]; exact e3
  have f4 : IntKind.u64.wrap ((a / 4294967296) * (b / 4294967296)) = s := by rw [wrap_mul32 _ _ (by omega) (by omega) (by omega) (by omega)]; exact e4
  have HS := Lib.hid hsum
  have HBB := Lib.hid hB
  have HV := Lib.hid (val6_bd hD)
  have HD := Lib.hid hD
  clear hT hB hsum e1 e2 e3 e4 hD
  have hw6 := W6.new w D 73
  obtain ⟨B, hBe⟩ : ∃ B, w.heap.size = B := ⟨_, rfl⟩
  have HBe := Lib.hid hBe
  obtain ⟨W1, hW1⟩ : ∃ W1, w.alloc (.cells #[.int .u64 (D 0), .int .u64 (D 1), .int .u64 (D 2), .int .u64 (D 3), .int .u64 (D 4), .int .u64 (D 5)] 73) = W1 := ⟨_, rfl⟩
  obtain ⟨W2, hW2⟩ : ∃ W2, W1.alloc (.cells #[.int .u64 0, .int .u64 0, .int .u64 0, .int .u64 0, .int .u64 0, .int .u64 0] 73) = W2 := ⟨_, rfl⟩
  have hU1 : Up w W1 := hW1 ▸ (Up.refl w).alloc _
  have hs1 : W1.heap.size = B + 1 := by rw [← hW1, size_alloc, hBe]
  have hU2 : Up W1 W2 := hW2 ▸ (Up.refl W1).alloc _
  have hs2 : W2.heap.size = B + 1 + 1 := by rw [← hW2, size_alloc, hs1]
  have h0 : W6 W2 (B + 1) (fun _ => 0) := by rw [← hW2, ← hs1]; exact W6.new0 _ _
  rw [hW1, hBe] at hw6
  have HW6 := Lib.hid (hw6.up hU2)
  have H0 := Lib.hid h0
  have HW1 := Lib.hid hW1
  have HW2 := Lib.hid hW2
  have HU := Lib.hid (hU1.trans hU2)
  have HS2 := Lib.hid hs2
  clear hBe hw6 h0 hW1 hW2 hU1 hU2 hs1 hs2
  go_enter Try.func51, Try.ntmps51
  go_wp2_with fail
  rw [HBe.out, HW1.out, HW2.out]
  refine (r05_digit D HD.out 0 0 (by rfl) (by omega) p p0 p1 (val6 D + p) (by have h := (rfl : val6 D = val6 D); have hs := HS.out; rw [h]; simp only [pw]; try omega) (by have := HV.out; have := HS.out; have := HBB.out; omega) _).mono ?_
  rintro e x1 ⟨⟨D1, rfl, hD1, hv1⟩, hx1⟩
  have HWA1 := Lib.hid (HW6.out.up hx1)
  have HZ1 := Lib.hid (H0.out.up hx1)
  have HU1 := Lib.hid (HU.out.trans hx1)
  clear hx1
  have HDD1 := Lib.hid hD1
  have HVV1 := Lib.hid hv1
  clear hD1 hv1
  obtain ⟨d0, d1, d2, d3, d4, d5⟩ := HWA1.out.six
  have fz := HWA1.out.fz
  have lt := HWA1.out.lt
  go_wp2_with fail
  clear d0 d1 d2 d3 d4 d5 fz lt
  refine (r05_digit D1 HDD1.out 1 1 (by rfl) (by omega) q q0 q1 (val6 D + p + q * 4294967296) (by have h := HVV1.out; have hs := HS.out; rw [h]; simp only [pw]; try omega) (by have := HV.out; have := HS.out; have := HBB.out; omega) _).mono ?_
  rintro e x2 ⟨⟨D2, rfl, hD2, hv2⟩, hx2⟩
  have HWA2 := Lib.hid ((put6_at HWA1.out D1).up hx2)
  have HZ2 := Lib.hid ((HZ1.out.but (put6_but x1 B D1) (by omega)).up hx2)
  have HU2 := Lib.hid ((UpBut.up HU1.out (by have := HBe.out; omega) (put6_but x1 B D1)).trans hx2)
  clear hx2
  have HDD2 := Lib.hid hD2
  have HVV2 := Lib.hid hv2
  clear hD2 hv2
  obtain ⟨d0, d1, d2, d3, d4, d5⟩ := HWA2.out.six
  have fz := HWA2.out.fz
  have lt := HWA2.out.lt
  go_wp2_with fail
  clear d0 d1 d2 d3 d4 d5 fz lt
  refine (r05_digit D2 HDD2.out 1 1 (by rfl) (by omega) r r0 r1 (val6 D + p + q * 4294967296 + r * 4294967296) (by have h := HVV2.out; have hs := HS.out; rw [h]; simp only [pw]; try omega) (by have := HV.out; have := HS.out; have := HBB.out; omega) _).mono ?_
  rintro e x3 ⟨⟨D3, rfl, hD3, hv3⟩, hx3⟩
  have HWA3 := Lib.hid ((put6_at HWA2.out D2).up hx3)
  have HZ3 := Lib.hid ((HZ2.out.but (put6_but x2 B D2) (by omega)).up hx3)
  have HU3 := Lib.hid ((UpBut.up HU2.out (by have := HBe.out; omega) (put6_but x2 B D2)).trans hx3)
  clear hx3
  have HDD3 := Lib.hid hD3
  have HVV3 := Lib.hid hv3
  clear hD3 hv3
  obtain ⟨d0, d1, d2, d3, d4, d5⟩ := HWA3.out.six
  have fz := HWA3.out.fz
  have lt := HWA3.out.lt
  go_wp2_with fail
  clear d0 d1 d2 d3 d4 d5 fz lt
  refine (r05_digit D3 HDD3.out 2 2 (by rfl) (by omega) s s0 s1 (T) (by have h := HVV3.out; have hs := HS.out; rw [h]; simp only [pw]; try omega) (by have := HV.out; have := HS.out; have := HBB.out; omega) _).mono ?_
  rintro e x4 ⟨⟨D4, rfl, hD4, hv4⟩, hx4⟩
  have HWA4 := Lib.hid ((put6_at HWA3.out D3).up hx4)
  have HZ4 := Lib.hid ((HZ3.out.but (put6_but x3 B D3) (by omega)).up hx4)
  have HU4 := Lib.hid ((UpBut.up HU3.out (by have := HBe.out; omega) (put6_but x3 B D3)).trans hx4)
  clear hx4
  have HDD4 := Lib.hid hD4
  have HVV4 := Lib.hid hv4
  clear hD4 hv4
  obtain ⟨d0, d1, d2, d3, d4, d5⟩ := HZ4.out.six
  have fz := HZ4.out.fz
  have lt := HZ4.out.lt
  go_wp2
  refine bodyPost_ret (v := .agg #[.int .u64 (D4 0), .int .u64 (D4 1), .int .u64 (D4 2), .int .u64 (D4 3), .int .u64 (D4 4), .int .u64 (D4 5)]) (by simp [results, Try.results51, go_sem, d0, d1, d2, d3, d4, d5]) rfl ⟨⟨D4, rfl, HDD4.out, HVV4.out⟩, ?_⟩
  exact UpBut.up HU4.out (by have := HBe.out; omega) (put6_but x4 (B + 1) D4)

theorem r05_size (n : Int) (h1 : -9223372036854775808 ≤ n) (h2 : n ≤ 9223372036854775807) (w : World) :
    Calls Try.prog 52 #[.int .i64 n] w fun e w' => e = .returned (.int .u64 (mag n)) ∧ w' = w := by
  by_cases h : n < 0
  · have e1 : wrap64 (-(n + 1)) = -(n + 1) := by unfold wrap64; omega
    have e2 : IntKind.u64.wrap (-(n + 1)) = -(n + 1) := by rw [IntKind.wrap_u64]; omega
    have h3 : n + 1 ≤ 0 := by omega
    have h4 : -9223372036854775807 ≤ n + 1 := by omega
    go_enter Try.func52, Try.ntmps52
    go_wp2
    go_ret
    refine ⟨ret_int ?_, rfl⟩
    rw [mag, if_pos h]
    try simp only [e1, e2]
    try rw [IntKind.wrap_u64]
    omega
  · have h0 : 0 ≤ n := by omega
    go_enter Try.func52, Try.ntmps52
    go_wp2
    go_ret
    refine ⟨ret_int ?_, rfl⟩
    rw [mag, if_neg (by omega)]

def foundF (o : Option Int) : Int × Bool := match o with
  | none => (0, false)
  | some v => (v, true)
set_option maxHeartbeats 2000000 in
theorem r05_find (s : ByteArray) (v : Value) (l : List Mono) (w : World) (hv : MonosAt w v l) :
    Calls Try.prog 53 #[v, .string s] w fun e w' => e = .returned (.tuple #[.int .i64 (foundF (lookE l s.toList)).1, .bool (foundF (lookE l s.toList)).2]) ∧ w' = w := by
  have hmax := hv.max
  obtain ⟨a, cap, rfl⟩ := hv.slice
  obtain ⟨sl, hsl⟩ : ∃ x, s.toList = x := ⟨_, rfl⟩
  rw [hsl]
  obtain ⟨r, hr⟩ : ∃ r, lookE l sl = r := ⟨_, rfl⟩
  rw [hr]
  obtain ⟨n, hn⟩ : ∃ n, l.length = n := ⟨_, rfl⟩
  rw [hn] at hv hmax ⊢
  have HN := Lib.hid hn
  have HR := Lib.hid hr
  have HV := Lib.hid hv
  clear hr hn hv
  go_enter Try.func53, Try.ntmps53
  go_wp2
  go_loopw [6] (fun i wr => ∃ k : Nat, k ≤ n ∧ i = .int .i64 k ∧ wr = w ∧ lookE (l.drop k) sl = r) (fun i _ => n - (intOf i).toNat)
  case atStart => exact ⟨0, by omega, rfl, rfl, by rw [List.drop_zero]; exact HR.out⟩
  case round =>
    obtain ⟨k, hk, rfl, hw, hP⟩ := hrel
    replace hw := hw.symm
    subst hw
    have HP := Lib.hid hP
    clear hP
    by_cases hlt : k < n
    · have hlt2 : (k : Int) < (n : Int) := by omega
      have hk0 : (0 : Int) ≤ (k : Int) := by omega
      obtain ⟨bl, off, s', b, rfl, p1, p2, p3, p4⟩ := HV.out.elem (Up.refl _) k (by rw [HN.out]; exact hlt) HN.out rfl
      obtain ⟨q, hq⟩ : ∃ q, (s'.toList == sl) = q := ⟨_, rfl⟩
      have HP2 : Hid ((if q then some b else lookE (l.drop (k + 1)) sl) = r) := Lib.hid (by
        rw [← HP.out, drop_mono (by rw [HN.out]; exact hlt) p2, ← hq]; rfl)
      clear p2 HP
      cases q
      · have hq2 : ¬ s'.toList = sl := by simpa using hq
        have HG : Hid (lookE (l.drop (k + 1)) sl = r) := Lib.hid (by rw [← HP2.out]; rfl)
        go_wp2
        go_roundw
        case rel => exact ⟨k + 1, by omega, by go_num, by trivial, HG.out⟩
        case measure => simp [intOf]; omega
      · have hq2 : s'.toList = sl := by simpa using hq
        obtain rfl : r = some b := by rw [← HP2.out]; rfl
        go_wp2
        go_ret2
        exact ⟨rfl, rfl⟩
    · have hlt2 : (n : Int) ≤ (k : Int) := by omega
      obtain rfl : r = none := by rw [← HP.out, List.drop_eq_nil_of_le (by rw [HN.out]; omega)]; rfl
      go_wp2
      go_ret2
      exact ⟨rfl, rfl⟩
end Go.Proofs.Ytpclbgaaoednnaa
