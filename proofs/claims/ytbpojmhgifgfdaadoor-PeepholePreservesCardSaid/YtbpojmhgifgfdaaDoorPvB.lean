/-
  The reference 01: order, size, gcd, made, New, Valid; base.Val at every type. Printed by mkPvB.py.
-/
import Derived.Test.YtbpojmhgifgfdaaDoorPvA
import Derived.Test.YtbpojmhgifgfdaaDoorPeV
namespace Go.Proofs.YtbpojmhgifgfdaaDoor
open Go.ChangeShapes Go.WideShapes Go.ChangeAt Go.RowKit
set_option linter.unusedVariables false
set_option linter.unusedSimpArgs false
set_option maxRecDepth 100000

theorem r01_gcd (a b : Int) (ha : 0 ≤ a) (ha' : a < 18446744073709551616) (hb : 0 ≤ b) (hb' : b < 18446744073709551616) (w : World) :
    Calls Tryd.prog 95 #[.int .u64 a, .int .u64 b] w fun e w' => e = .returned (.int .u64 (Int.gcd a b)) ∧ Up w w' := by
  go_enter Tryd.func95, Tryd.ntmps95
  go_wp2
  go_loopw [0, 1] (fun x y wr => ∃ a' b' : Int, 0 ≤ a' ∧ a' < 18446744073709551616 ∧ 0 ≤ b' ∧ b' < 18446744073709551616 ∧ x = .int .u64 a' ∧ y = .int .u64 b' ∧ Int.gcd a' b' = Int.gcd a b ∧ Up w wr) (fun _ y _ => (intOf y).toNat)
  case atStart => exact ⟨a, b, ha, ha', hb, hb', rfl, rfl, rfl, Up.refl _⟩
  case round =>
    rename_i wr
    obtain ⟨a', b', h1, h2, h3, h4, rfl, rfl, hg, hB⟩ := hrel
    have HG := Lib.hid hg
    clear hg
    by_cases h0 : b' = 0
    · subst h0
      go_wp2
      go_ret
      exact ⟨ret_int (by rw [← HG.out]; simp; omega), hB⟩
    · have h5 : 0 < b' := by omega
      have h6 : (b' == 0) = false := by simp [h0]
      have h7 : (b' != 0) = true := by simp [h0]
      go_wp2
      go_quiet (fail)
      go_wp2
      go_roundw
      case rel => exact ⟨b', a' % b', h3, h4, Int.emod_nonneg _ h0, by have := Int.emod_lt_of_pos a' h5; omega, rfl, rfl, by rw [gcd_step _ _ h1 h3]; exact HG.out, hB.drewN _⟩
      case measure =>
        have := Int.emod_lt_of_pos a' h5
        simp [intOf]; omega

theorem r01_gcd' (a b g : Int) (hg : (Int.gcd a b : Int) = g) (ha : 0 ≤ a) (ha' : a < 18446744073709551616) (hb : 0 ≤ b) (hb' : b < 18446744073709551616) (w : World) :
    Calls Tryd.prog 95 #[.int .u64 a, .int .u64 b] w fun e w' => e = .returned (.int .u64 g) ∧ Up w w' := by
  rw [← hg]; exact r01_gcd a b ha ha' hb hb' w


set_option maxHeartbeats 2000000 in
theorem r01_size (n r : Int) (hr : mag n = r) (hn : R64 n) (w : World) :
    Calls Tryd.prog 94 #[.int .i64 n] w fun e' w' => e' = .returned (.int .u64 r) ∧ Up w w' := by
  have HR := Lib.hid hr
  obtain ⟨h1, h2⟩ := hn
  clear hr
  by_cases h : n < 0
  · have HW : Hid (IntKind.u64.wrap (IntKind.u64.wrap (wrap64 (-wrap64 (n + 1))) + 1) = r) := Lib.hid (by
      rw [← HR.out, mag, if_pos h, IntKind.wrap_u64, IntKind.wrap_u64]
      unfold wrap64
      omega)
    have HW2 : Hid (IntKind.u64.wrap (-(n + 1) + 1) = r) := Lib.hid (by rw [← HR.out, mag, if_pos h, IntKind.wrap_u64]; omega)
    go_enter Tryd.func94, Tryd.ntmps94
    go_wp2
    go_ret
    exact ⟨ret_int (by first | exact HW.out | exact HW2.out | (rw [← HR.out, mag, if_pos (by omega)]; omega) | (rw [← HR.out, mag, if_pos (by omega)]; rw [IntKind.wrap_u64]; omega)), Up.refl _⟩
  · have HW : Hid (IntKind.u64.wrap n = r) := Lib.hid (by rw [← HR.out, mag, if_neg h, IntKind.wrap_u64]; omega)
    go_enter Tryd.func94, Tryd.ntmps94
    go_wp2
    go_ret
    exact ⟨ret_int (by first | exact HW.out | (rw [← HR.out, mag, if_neg (by omega)])), Up.refl _⟩

def ordF (a b : Int) : Int := if a < b then -1 else if b < a then 1 else 0
set_option maxHeartbeats 2000000 in
theorem r01_order (a b r : Int) (hr : ordF a b = r) (w : World) :
    Calls Tryd.prog 88 #[.int .i64 a, .int .i64 b] w fun e' w' => e' = .returned (.int .i64 r) ∧ Up w w' := by
  have HR := Lib.hid hr
  clear hr
  go_enter Tryd.func88, Tryd.ntmps88
  go_wp2
  all_goals
    go_ret
    exact ⟨ret_int (by rw [← HR.out, ordF]; (repeat' split) <;> first | rfl | omega), Up.refl _⟩

/-- made: numerator, denominator, error. -/
def madeF (m : Bool) (a b : Int) : Int × Int × Int :=
  if 2147483647 < a / (Int.gcd a b : Int) ∨ 2147483647 < b / (Int.gcd a b : Int) then (0, 0, 3) else if m then (-(a / (Int.gcd a b : Int)), b / (Int.gcd a b : Int), 0) else (a / (Int.gcd a b : Int), b / (Int.gcd a b : Int), 0)
set_option maxHeartbeats 4000000 in
theorem r01_made (m : Bool) (a b : Int) (ha : 0 ≤ a) (ha2 : a ≤ 9223372036854775808) (hb : 0 < b) (hb2 : b ≤ 9223372036854775808) (r : Int × Int × Int) (hr : madeF m a b = r) (w : World) :
    Calls Tryd.prog 93 #[.bool m, .int .u64 a, .int .u64 b] w fun e w' => e = .returned (.tuple #[.agg #[.int .i64 r.1, .int .i64 r.2.1], .int .i64 r.2.2]) ∧ Up w w' := by
  obtain ⟨g, hg⟩ : ∃ g : Int, (Int.gcd a b : Int) = g := ⟨_, rfl⟩
  have hg1 : 1 ≤ g := by
    rw [← hg]; have := Int.gcd_pos_of_ne_zero_right a (show b ≠ 0 by omega); omega
  rw [madeF, hg] at hr
  have HG := Lib.hid hg
  have HR := Lib.hid hr
  clear hg hr
  have ha0 : 0 ≤ a / g := Int.ediv_nonneg ha (by omega)
  have hb0 : 0 ≤ b / g := Int.ediv_nonneg (by omega) (by omega)
  have HU : Hid (Up w (w.alloc (.cells #[.int .i64 0, .int .i64 0] 60))) := Lib.hid ((Up.refl w).alloc _)
  have HB : Hid (BoxC (w.alloc (.cells #[.int .i64 0, .int .i64 0] 60)) w.heap.size 60 #[.int .i64 0, .int .i64 0]) := Lib.hid (BoxC.new w _ _)
  go_enter Tryd.func93, Tryd.ntmps93
  go_wp2_with (go_at_call 95; refine (r01_gcd' _ _ g HG.out (by omega) (by omega) (by omega) (by omega) _).mono ?_; rintro e x ⟨rfl, hx⟩; replace HU := Lib.hid (HU.out.trans hx); replace HB := Lib.hid (HB.out.up hx); clear hx; obtain ⟨b0, b1⟩ := HB.out.two; have bf := HB.out.frozen)
  all_goals
    refine bodyPost_ret (v := .tuple #[.agg #[.int .i64 r.1, .int .i64 r.2.1], .int .i64 r.2.2]) (by rw [← HR.out]; simp [results, Tryd.results93, go_sem, *]; try ((repeat' split) <;> simp_all <;> omega)) rfl ?_
    exact ⟨rfl, (HU.out.setCell (p := ⟨w.heap.size, 0, none⟩) (Nat.le_refl _) _).setCell (p := ⟨w.heap.size, 1, none⟩) (Nat.le_refl _) _⟩

set_option maxHeartbeats 4000000 in
theorem r01_New (n d : Int) (hn : R64 n) (hd : R64 d) (r : Int × Int × Int) (hr : newF n d = r) (w : World) :
    Calls Tryd.prog 89 #[.int .i64 n, .int .i64 d] w fun e w' => e = .returned (.tuple #[.agg #[.int .i64 r.1, .int .i64 r.2.1], .int .i64 r.2.2]) ∧ Up w w' := by
  have HR := Lib.hid hr
  clear hr
  by_cases h0 : d = 0
  · subst h0
    go_enter Tryd.func89, Tryd.ntmps89
    go_wp2
    exact bodyPost_ret (v := .tuple #[.agg #[.int .i64 r.1, .int .i64 r.2.1], .int .i64 r.2.2]) (by rw [← HR.out]; simp [results, Tryd.results89, go_sem, newF]) rfl ⟨rfl, (Up.refl _).alloc _⟩
  · have hd0 : (d == 0) = false := by simpa using h0
    obtain ⟨a, ha⟩ : ∃ a, mag n = a := ⟨_, rfl⟩
    obtain ⟨b, hb⟩ : ∃ b, mag d = b := ⟨_, rfl⟩
    obtain ⟨m, hm⟩ : ∃ m, (decide (n < 0) != decide (d < 0)) = m := ⟨_, rfl⟩
    have HS1 := Lib.hid (fun w => r01_size n a ha hn w)
    have HS2 := Lib.hid (fun w => r01_size d b hb hd w)
    have hmn := mag_nonneg n
    have hmn2 : a ≤ 9223372036854775808 := by rw [← ha]; obtain ⟨h1, h2⟩ := hn; unfold mag; split <;> omega
    have hmd2 : b ≤ 9223372036854775808 := by rw [← hb]; obtain ⟨h1, h2⟩ := hd; unfold mag; split <;> omega
    have hb1 : 0 < b := by rw [← hb]; unfold mag; split <;> omega
    rw [ha] at hmn
    have HMK : Hid (madeF m a b = r) := Lib.hid (by
      rw [← HR.out, newF, if_neg h0, madeF, ← ha, ← hb, gcd_mag, hm])
    have HMD := Lib.hid (fun w => r01_made m a b hmn hmn2 hb1 hmd2 r HMK.out w)
    have HU : Hid (Up w (w.alloc (.cells #[.int .i64 0, .int .i64 0] 60))) := Lib.hid ((Up.refl w).alloc _)
    have HB : Hid (BoxC (w.alloc (.cells #[.int .i64 0, .int .i64 0] 60)) w.heap.size 60 #[.int .i64 0, .int .i64 0]) := Lib.hid (BoxC.new w _ _)
    clear ha hb hn hd
    rcases (by omega : n < 0 ∨ 0 ≤ n) with h1 | h1 <;> rcases (by omega : d < 0 ∨ 0 ≤ d) with h2 | h2
    · obtain rfl : m = false := by rw [← hm]; simp <;> omega
      clear hm
      go_enter Tryd.func89, Tryd.ntmps89
      go_wp2_with (first
        | (go_at_call 94; (first | (with_reducible refine (HS1.out _).mono ?_) | (with_reducible refine (HS2.out _).mono ?_)); rintro e x ⟨rfl, hx⟩; replace HU := Lib.hid (HU.out.trans hx); replace HB := Lib.hid (HB.out.up hx); clear hx)
        | (go_at_call 93; refine (HMD.out _).mono ?_; rintro e x ⟨rfl, hx⟩; replace HU := Lib.hid (HU.out.trans hx); replace HB := Lib.hid (HB.out.up hx); clear hx; obtain ⟨b0, b1⟩ := HB.out.two; have bf := HB.out.frozen))
      all_goals
        refine bodyPost_ret (v := .tuple #[.agg #[.int .i64 r.1, .int .i64 r.2.1], .int .i64 r.2.2]) (by simp [results, Tryd.results89, go_sem, *]) rfl ?_
        exact ⟨rfl, (HU.out.setCell (p := ⟨w.heap.size, 0, none⟩) (Nat.le_refl _) _).setCell (p := ⟨w.heap.size, 1, none⟩) (Nat.le_refl _) _⟩
    · obtain rfl : m = true := by rw [← hm]; simp <;> omega
      clear hm
      have hd1 : decide (d < 0) = false := by simp; omega
      go_enter Tryd.func89, Tryd.ntmps89
      go_wp2_with (first
        | (go_at_call 94; (first | (with_reducible refine (HS1.out _).mono ?_) | (with_reducible refine (HS2.out _).mono ?_)); rintro e x ⟨rfl, hx⟩; replace HU := Lib.hid (HU.out.trans hx); replace HB := Lib.hid (HB.out.up hx); clear hx)
        | (go_at_call 93; refine (HMD.out _).mono ?_; rintro e x ⟨rfl, hx⟩; replace HU := Lib.hid (HU.out.trans hx); replace HB := Lib.hid (HB.out.up hx); clear hx; obtain ⟨b0, b1⟩ := HB.out.two; have bf := HB.out.frozen))
      all_goals
        refine bodyPost_ret (v := .tuple #[.agg #[.int .i64 r.1, .int .i64 r.2.1], .int .i64 r.2.2]) (by simp [results, Tryd.results89, go_sem, *]) rfl ?_
        exact ⟨rfl, (HU.out.setCell (p := ⟨w.heap.size, 0, none⟩) (Nat.le_refl _) _).setCell (p := ⟨w.heap.size, 1, none⟩) (Nat.le_refl _) _⟩
    · obtain rfl : m = true := by rw [← hm]; simp <;> omega
      clear hm
      have hd1 : decide (n < 0) = false := by simp; omega
      go_enter Tryd.func89, Tryd.ntmps89
      go_wp2_with (first
        | (go_at_call 94; (first | (with_reducible refine (HS1.out _).mono ?_) | (with_reducible refine (HS2.out _).mono ?_)); rintro e x ⟨rfl, hx⟩; replace HU := Lib.hid (HU.out.trans hx); replace HB := Lib.hid (HB.out.up hx); clear hx)
        | (go_at_call 93; refine (HMD.out _).mono ?_; rintro e x ⟨rfl, hx⟩; replace HU := Lib.hid (HU.out.trans hx); replace HB := Lib.hid (HB.out.up hx); clear hx; obtain ⟨b0, b1⟩ := HB.out.two; have bf := HB.out.frozen))
      all_goals
        refine bodyPost_ret (v := .tuple #[.agg #[.int .i64 r.1, .int .i64 r.2.1], .int .i64 r.2.2]) (by simp [results, Tryd.results89, go_sem, *]) rfl ?_
        exact ⟨rfl, (HU.out.setCell (p := ⟨w.heap.size, 0, none⟩) (Nat.le_refl _) _).setCell (p := ⟨w.heap.size, 1, none⟩) (Nat.le_refl _) _⟩
    · obtain rfl : m = false := by rw [← hm]; simp <;> omega
      clear hm
      have hd1 : decide (n < 0) = false := by simp; omega
      have hd2 : decide (d < 0) = false := by simp; omega
      go_enter Tryd.func89, Tryd.ntmps89
      go_wp2_with (first
        | (go_at_call 94; (first | (with_reducible refine (HS1.out _).mono ?_) | (with_reducible refine (HS2.out _).mono ?_)); rintro e x ⟨rfl, hx⟩; replace HU := Lib.hid (HU.out.trans hx); replace HB := Lib.hid (HB.out.up hx); clear hx)
        | (go_at_call 93; refine (HMD.out _).mono ?_; rintro e x ⟨rfl, hx⟩; replace HU := Lib.hid (HU.out.trans hx); replace HB := Lib.hid (HB.out.up hx); clear hx; obtain ⟨b0, b1⟩ := HB.out.two; have bf := HB.out.frozen))
      all_goals
        refine bodyPost_ret (v := .tuple #[.agg #[.int .i64 r.1, .int .i64 r.2.1], .int .i64 r.2.2]) (by simp [results, Tryd.results89, go_sem, *]) rfl ?_
        exact ⟨rfl, (HU.out.setCell (p := ⟨w.heap.size, 0, none⟩) (Nat.le_refl _) _).setCell (p := ⟨w.heap.size, 1, none⟩) (Nat.le_refl _) _⟩

def valT (t : Typ) (n d : Int) : Bool :=
  if t.1 = 2 then decide (d = 1 ∧ -(2 ^ (t.2.1.toNat - 1) : Int) ≤ n ∧ n ≤ (2 ^ (t.2.1.toNat - 1) : Int) - 1)
  else if t.1 = 3 then decide (-2147483647 ≤ n ∧ n ≤ 2147483647 ∧ d = 1) else validF n d
set_option maxHeartbeats 4000000 in
theorem base_Val (t : Typ) (ht : typB t = true) (n d : Int) (hn : R64 n) (res : Bool) (hr : valT t n d = res) (w : World) :
    Calls Tryd.prog 60 #[typV t, .agg #[.int .i64 n, .int .i64 d]] w fun e w' => e = .returned (.bool res) ∧ Up w w' := by
  obtain ⟨k, b, f, r, o⟩ := t
  by_cases h2 : k = 2
  · subst h2
    have hb : 2 ≤ b ∧ b ≤ 31 := by
      simp only [typB, plainB, fixB, Bool.or_eq_true, Bool.and_eq_true, decide_eq_true_eq] at ht
      omega
    obtain ⟨hb1, hb2⟩ := hb
    have hp := pow_bd2 b hb1 hb2
    unfold valT at hr
    rw [if_pos rfl] at hr
    have HR := Lib.hid hr
    clear hr ht
    obtain ⟨hp1, hp2⟩ := hp
    go_enter Tryd.func60, Tryd.ntmps60
    go_wp2
    all_goals try simp only [Bool.not_eq_false', Bool.not_eq_true', bne_iff_ne, ne_eq, bne_eq_false_iff_eq, beq_iff_eq, beq_eq_false_iff_ne, decide_eq_true_eq, decide_eq_false_iff_not] at *
    all_goals
      go_ret
      exact ⟨ret_bool (by rw [← HR.out]; simp [*] <;> omega), ((Up.refl w).alloc _).alloc _⟩
  · have hk2 : (k == 2) = false := by simpa using h2
    by_cases h3 : k = 3
    · subst h3
      unfold valT at hr
      rw [if_neg (show ¬ (3 : Int) = 2 by decide), if_pos rfl] at hr
      have HR := Lib.hid hr
      clear hr ht
      go_enter Tryd.func60, Tryd.ntmps60
      go_wp2
      all_goals try simp only [Bool.not_eq_false', Bool.not_eq_true', bne_iff_ne, ne_eq, bne_eq_false_iff_eq, beq_iff_eq, beq_eq_false_iff_ne, decide_eq_true_eq, decide_eq_false_iff_not] at *
      all_goals
        go_ret
        exact ⟨ret_bool (by rw [← HR.out, Bool.eq_iff_iff]; simp [*] <;> omega), ((Up.refl w).alloc _).alloc _⟩
    · have hk3 : (k == 3) = false := by simpa using h3
      unfold valT at hr
      rw [if_neg h2, if_neg h3] at hr
      exact base_Val_frac k b f r o n d res hr hk2 hk3 hn.1 hn.2 w

theorem r01_Valid (n d : Int) (hn : R64 n) (res : Bool) (hr : validF n d = res) (w : World) :
    Calls Tryd.prog 87 #[.agg #[.int .i64 n, .int .i64 d]] w fun e w' => e = .returned (.bool res) ∧ Up w w' := by
  have HV := Lib.hid (fun w => base_Val_frac 1 0 0 0 0 n d res hr (by decide) (by decide) hn.1 hn.2 w)
  clear hr
  go_enter Tryd.func87, Tryd.ntmps87
  go_wp2_with (go_at_call 60; refine (HV.out _).mono ?_; rintro e x ⟨rfl, hx⟩)
  go_ret
  exact ⟨rfl, ((Up.refl w).alloc _).trans hx⟩
end Go.Proofs.YtbpojmhgifgfdaaDoor
