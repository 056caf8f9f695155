/-
  The reference 1: gcd, size, Valid, Digits, Format.
-/
import Derived.Test.YtlglfdhiopnglaaGreatDoorGd
namespace Go.Proofs.YtlglfdhiopnglaaGreatDoor
open Go.ChangeShapes Go.WideShapes Go.ChangeAt Go.RowKit
set_option linter.unusedVariables false
set_option linter.unusedSimpArgs false
set_option maxRecDepth 100000

set_option maxHeartbeats 2000000 in
theorem r01_gcd (a b : Int) (ha : 0 ≤ a) (ha' : a < 18446744073709551616) (hb : 0 ≤ b) (hb' : b < 18446744073709551616) (w : World) :
    Calls Tryz.prog 98 #[.int .u64 a, .int .u64 b] w fun e w' => e = .returned (.int .u64 (Int.gcd a b)) ∧ Up w w' := by
  go_enter Tryz.func98, Tryz.ntmps98
  go_wp2
  go_loopw [0, 1] (fun x y wr => ∃ a' b' : Int, 0 ≤ a' ∧ a' < 18446744073709551616 ∧ 0 ≤ b' ∧ b' < 18446744073709551616 ∧ x = .int .u64 a' ∧ y = .int .u64 b' ∧ Int.gcd a' b' = Int.gcd a b ∧ Up w wr) (fun _ y _ => (intOf y).toNat)
  case atStart => exact ⟨a, b, ha, ha', hb, hb', rfl, rfl, rfl, Up.refl _⟩
  case round =>
    rename_i wr
    obtain ⟨a', b', h1, h2, h3, h4, rfl, rfl, hg, hB⟩ := hrel
    have HG := Lib.hid hg
    clear hg
    by_cases h0 : b' = 0
    · subst h0
      go_wp2
      go_ret
      exact ⟨ret_int (by rw [← HG.out]; simp; omega), hB⟩
    · have h5 : 0 < b' := by omega
      have h6 : (b' == 0) = false := by simp [h0]
      have h7 : (b' != 0) = true := by simp [h0]
      go_wp2
      go_quiet (fail)
      go_wp2
      go_roundw
      case rel => exact ⟨b', a' % b', h3, h4, Int.emod_nonneg _ h0, by have := Int.emod_lt_of_pos a' h5; omega, rfl, rfl, by rw [gcd_step _ _ h1 h3]; exact HG.out, hB.drewN _⟩
      case measure =>
        have := Int.emod_lt_of_pos a' h5
        simp [intOf]; omega

theorem r01_gcd' (a b g : Int) (hg : (Int.gcd a b : Int) = g) (ha : 0 ≤ a) (ha' : a < 18446744073709551616) (hb : 0 ≤ b) (hb' : b < 18446744073709551616) (w : World) :
    Calls Tryz.prog 98 #[.int .u64 a, .int .u64 b] w fun e w' => e = .returned (.int .u64 g) ∧ Up w w' := by
  rw [← hg]; exact r01_gcd a b ha ha' hb hb' w


set_option maxHeartbeats 2000000 in
theorem r01_size (n r : Int) (hr : mag n = r) (hn : R64 n) (w : World) :
    Calls Tryz.prog 86 #[.int .i64 n] w fun e' w' => e' = .returned (.int .u64 r) ∧ Up w w' := by
  have HR := Lib.hid hr
  obtain ⟨h1, h2⟩ := hn
  clear hr
  by_cases h : n < 0
  · have HW : Hid (IntKind.u64.wrap (IntKind.u64.wrap (wrap64 (-wrap64 (n + 1))) + 1) = r) := Lib.hid (by
      rw [← HR.out, mag, if_pos h, IntKind.wrap_u64, IntKind.wrap_u64]
      unfold wrap64
      omega)
    have HW2 : Hid (IntKind.u64.wrap (-(n + 1) + 1) = r) := Lib.hid (by rw [← HR.out, mag, if_pos h, IntKind.wrap_u64]; omega)
    go_enter Tryz.func86, Tryz.ntmps86
    go_wp2
    go_ret
    exact ⟨ret_int (by first | exact HW.out | exact HW2.out | (rw [← HR.out, mag, if_pos (by omega)]; omega) | (rw [← HR.out, mag, if_pos (by omega)]; rw [IntKind.wrap_u64]; omega)), Up.refl _⟩
  · have HW : Hid (IntKind.u64.wrap n = r) := Lib.hid (by rw [← HR.out, mag, if_neg h, IntKind.wrap_u64]; omega)
    go_enter Tryz.func86, Tryz.ntmps86
    go_wp2
    go_ret
    exact ⟨ret_int (by first | exact HW.out | (rw [← HR.out, mag, if_neg (by omega)])), Up.refl _⟩

theorem r01_Valid (n d : Int) (hn : R64 n) (res : Bool) (hr : validF n d = res) (w : World) :
    Calls Tryz.prog 84 #[.agg #[.int .i64 n, .int .i64 d]] w fun e w' => e = .returned (.bool res) ∧ Up w w' := by
  have HV := Lib.hid (fun w => base_Val_frac 1 0 0 0 0 n d res hr (by decide) (by decide) hn.1 hn.2 w)
  clear hr
  go_enter Tryz.func84, Tryz.ntmps84
  go_wp2_with (go_at_call 72; refine (HV.out _).mono ?_; rintro e x ⟨rfl, hx⟩)
  go_ret
  exact ⟨rfl, ((Up.refl w).alloc _).trans hx⟩

def dgS : ByteArray := ⟨#[48, 49, 50, 51, 52, 53, 54, 55, 56, 57]⟩
theorem dgS_piece (r : Nat) (h : r < 10) : dgS.extract r (r + 1) = ⟨#[UInt8.ofNat (48 + r)]⟩ := by
  rcases (by omega : r = 0 ∨ r = 1 ∨ r = 2 ∨ r = 3 ∨ r = 4 ∨ r = 5 ∨ r = 6 ∨ r = 7 ∨ r = 8 ∨ r = 9) with rfl | rfl | rfl | rfl | rfl | rfl | rfl | rfl | rfl | rfl <;> decide +kernel

set_option maxHeartbeats 4000000 in
theorem r01_plain (u : Nat) (n1 : u < 18446744073709551616) (w : World) :
    Calls Tryz.prog 85 #[.int .u64 (u : Int)] w fun e w' => e = .returned (.string (bst (Lib.decDigits u))) ∧ w' = w := by
  have p20 : (10 : Nat) ^ (19 + 1) = 100000000000000000000 := by decide
  have hlen : (Lib.decDigits u).length ≤ 20 := decDigits_len 19 u (by omega)
  clear p20
  obtain ⟨R, hR⟩ : ∃ R, Lib.decDigits u = R := ⟨_, rfl⟩
  rw [hR] at hlen ⊢
  have HR := Lib.hid hR
  have HL := Lib.hid hlen
  clear hR hlen
  go_enter Tryz.func85, Tryz.ntmps85
  go_wp2
  go_loopw [0, 3] (fun nv sv wr => ∃ (x : Nat) (s : List UInt8), nv = .int .u64 x ∧ sv = .string (bst s) ∧ x < 18446744073709551616 ∧ Lib.decDigits x ++ s = R ∧ wr = w) (fun nv _ _ => (intOf nv).toNat)
  case atStart => exact ⟨u, [], rfl, rfl, n1, by rw [List.append_nil]; exact HR.out, rfl⟩
  case round =>
    obtain ⟨x, s, rfl, rfl, hx, hs, rfl⟩ := hrel
    have HS := Lib.hid hs
    have hsl : s.length ≤ 100 := by
      have h1 : (Lib.decDigits x ++ s).length = R.length := by rw [hs]
      have h2 := HL.out
      rw [List.length_append] at h1
      omega
    obtain ⟨r, hr⟩ : ∃ r, x % 10 = r := ⟨_, rfl⟩
    obtain ⟨d, hd⟩ : ∃ d, x / 10 = d := ⟨_, rfl⟩
    have hr9 : r < 10 := by omega
    obtain ⟨c, hc⟩ : ∃ c, UInt8.ofNat (48 + r) = c := ⟨_, rfl⟩
    have hxI : (x : Int) < 18446744073709551616 := by omega
    have hcat : ∀ w, (Op.stringOp .add (⟨#[c]⟩ : ByteArray) (bst s)).run Tryz.prog w = .ok (.string (bst (c :: s))) w := cat (a := [c]) rfl rfl rfl (by simp) (by omega)
    have hpc := dgS_piece r hr9
    rw [hc] at hpc
    unfold dgS at hpc
    have HX := Lib.hid (And.intro hr hd)
    by_cases h10 : x < 10
    · have h10I : (x : Int) < 10 := by omega
      have h10b : ¬ (10 : Int) ≤ x := by omega
      obtain rfl : r = x := by omega
      have HG : Hid (c :: s = R) := Lib.hid (by
        have := HS.out
        rw [Lib.decDigits, dif_pos h10, hc] at this; exact this)
      clear hs hr hd hc HX h10
      go_wp2
      go_ret
      exact ⟨by rw [← HG.out]; rfl, rfl⟩
    · have h10b : (10 : Int) ≤ x := by omega
      have e1 : (x : Int).tmod 10 = (r : Int) := by rw [Int.tmod_eq_emod_of_nonneg (by omega)]; omega
      have e2 : (x : Int) % 10 = (r : Int) := by omega
      have e3 : (x : Int).tdiv 10 = (d : Int) := by rw [Int.tdiv_eq_ediv_of_nonneg (by omega)]; omega
      have e4 : (x : Int) / 10 = (d : Int) := by omega
      have HG : Hid (Lib.decDigits d ++ (c :: s) = R) := Lib.hid (by
        have := HS.out
        rw [Lib.decDigits, dif_neg h10, hr, hd, hc, List.append_assoc] at this; exact this)
      have HDX : Hid (d < x) := Lib.hid (by omega)
      clear hs hr hd hc h10
      go_wp2
      go_roundw
      case rel => exact ⟨d, c :: s, rfl, rfl, by have := HDX.out; omega, HG.out, trivial⟩
      case measure => have := HDX.out; simp [intOf]; omega

set_option maxHeartbeats 4000000 in
theorem r01_Digits (n : Int) (hn : R64 n) (w : World) : Calls Tryz.prog 60 #[.int .i64 n] w fun e w' => e = .returned (.string (bst (Lib.itoa n))) ∧ Up w w' := by
  obtain ⟨T, hT⟩ : ∃ T, Lib.itoa n = T := ⟨_, rfl⟩
  rw [hT]
  obtain ⟨u, hu⟩ : ∃ u : Nat, mag n = u := ⟨(mag n).toNat, by unfold mag; split <;> omega⟩
  have HS := Lib.hid (fun w => r01_size n u hu hn w)
  have hul : u < 18446744073709551616 := by
    unfold mag at hu
    obtain ⟨h1, h2⟩ := hn
    split at hu <;> omega
  have HP := Lib.hid (fun w => r01_plain u hul w)
  have hdl : (Lib.decDigits u).length ≤ 100 := by
    have p20 : (10 : Nat) ^ (19 + 1) = 100000000000000000000 := by decide
    have := decDigits_len 19 u (by omega)
    omega
  have hcat := cat (A := ⟨#[45]⟩) (a := [45]) (B := bst (Lib.decDigits u)) rfl rfl rfl (by decide) (by omega)
  by_cases h0 : n < 0
  · have HE : Hid (T = [45] ++ Lib.decDigits u) := Lib.hid (by
      rw [← hT]
      unfold Lib.itoa
      rw [if_pos h0]
      unfold mag at hu
      rw [if_pos h0] at hu
      rw [show n.natAbs = u by omega]; rfl)
    clear hT hu hul hdl hn
    go_enter Tryz.func60, Tryz.ntmps60
    go_wp2_with (first
      | (go_at_call 85; refine (HP.out _).mono ?_; rintro e x ⟨rfl, rfl⟩)
      | (go_at_call 86; refine (HS.out _).mono ?_; rintro e x ⟨rfl, hx⟩; have HX := Lib.hid hx; clear hx))
    go_ret
    exact ⟨by rw [HE.out]; rfl, HX.out⟩
  · have HE : Hid (T = Lib.decDigits u) := Lib.hid (by
      rw [← hT]
      unfold Lib.itoa
      rw [if_neg h0]
      unfold mag at hu
      rw [if_neg h0] at hu
      rw [show n.toNat = u by omega])
    clear hT hu hul hdl hn
    go_enter Tryz.func60, Tryz.ntmps60
    go_wp2_with (first
      | (go_at_call 85; refine (HP.out _).mono ?_; rintro e x ⟨rfl, rfl⟩)
      | (go_at_call 86; refine (HS.out _).mono ?_; rintro e x ⟨rfl, hx⟩; have HX := Lib.hid hx; clear hx))
    go_ret
    exact ⟨by rw [HE.out]; rfl, HX.out⟩

set_option maxHeartbeats 4000000 in
theorem r01_Format (n d : Int) (hn : R64 n) (hd : R64 d) (w : World) : Calls Tryz.prog 59 #[.agg #[.int .i64 n, .int .i64 d]] w fun e w' => e = .returned (.string (bst (frcL n d))) ∧ Up w w' := by
  obtain ⟨T, hT⟩ : ∃ T, frcL n d = T := ⟨_, rfl⟩
  rw [hT]
  unfold frcL at hT
  obtain ⟨vf, hvf⟩ : ∃ r, validF n d = r := ⟨_, rfl⟩
  rw [hvf] at hT
  have HV := Lib.hid (fun w => r01_Valid n d hn vf hvf w)
  have ln := itoa_len hn
  have ld := itoa_len hd
  have HN := Lib.hid (fun x => r01_Digits n hn x)
  have HD := Lib.hid (fun x => r01_Digits d hd x)
  generalize Lib.itoa n = nl at *
  generalize Lib.itoa d = dl at *
  have HU : Hid (Up w (w.alloc (.cells #[.int .i64 n, .int .i64 d] 38))) := Lib.hid ((Up.refl w).alloc _)
  have B0 : Hid (BoxC (w.alloc (.cells #[.int .i64 n, .int .i64 d] 38)) w.heap.size 38 #[.int .i64 n, .int .i64 d]) := Lib.hid (BoxC.new w _ _)
  have HTT := Lib.hid hT
  clear hn hd hT hvf
  cases vf
  · have HE : Hid (T = []) := Lib.hid (by rw [← HTT.out, if_pos rfl])
    clear HTT
    go_enter Tryz.func59, Tryz.ntmps59
    go_wp2_with (go_at_call 84; refine (HV.out _).mono ?_; rintro e x ⟨rfl, hx⟩; replace HU := Lib.hid (HU.out.trans hx); clear hx)
    go_ret
    exact ⟨ret_str (by rw [HE.out]; rfl), HU.out⟩
  by_cases h1 : d = 1
  · have HE : Hid (T = nl) := Lib.hid (by rw [← HTT.out, if_neg (by simp), if_pos h1])
    subst h1
    clear HTT
    go_enter Tryz.func59, Tryz.ntmps59
    go_wp2_with (first
      | (go_at_call 84; refine (HV.out _).mono ?_; rintro e x ⟨rfl, hx⟩; replace HU := Lib.hid (HU.out.trans hx); replace B0 := Lib.hid (B0.out.up hx); clear hx; obtain ⟨c0, c1⟩ := B0.out.two)
      | (go_at_call 60; refine (HN.out _).mono ?_; rintro e x ⟨rfl, hx⟩; replace HU := Lib.hid (HU.out.trans hx); clear hx))
    go_ret
    exact ⟨ret_str (by rw [HE.out]), HU.out⟩
  have h1b : (d == 1) = false := by simpa using h1
  have k1 := cat (A := bst nl) (B := ⟨#[47]⟩) (b := [47]) rfl rfl rfl (by omega) (by decide)
  have k2 := cat (A := bst (nl ++ [47])) (B := bst dl) (c := T) rfl rfl (by rw [← HTT.out, if_neg (by simp), if_neg h1]) (by simp; omega) (by omega)
  clear HTT h1 ln ld
  go_enter Tryz.func59, Tryz.ntmps59
  go_wp2_with (go_at_call 84; refine (HV.out _).mono ?_; rintro e x ⟨rfl, hx⟩; replace HU := Lib.hid (HU.out.trans hx); replace B0 := Lib.hid (B0.out.up hx); clear hx; obtain ⟨c0, c1⟩ := B0.out.two; have hlt := B0.out.lt)
  refine wp_region_ext (by kernel_rfl) (by kernel_rfl) ?_
  repeat (go_big_quiet_step (first | (go_at_call 60; with_reducible exact Calls.ext_of (HN.out _)) | (go_at_call 60; with_reducible exact Calls.ext_of (HD.out _))))
  refine wpQuiet_nil ?_
  intro z hz
  go_wp2
  go_ret
  exact ⟨rfl, HU.out.trans hz⟩
end Go.Proofs.YtlglfdhiopnglaaGreatDoor
