/-
  Coeff of the program's side, Gcd of both sides, Strings of the base package.
-/
import Derived.Test.YtpclbgaaoednnaaLinQw
import Derived.Test.YtpclbgaaoednnaaLinDp
namespace Go.Proofs.Ytpclbgaaoednnaa
open Go.ChangeShapes Go.WideShapes Go.ChangeAt Go.RowKit
set_option linter.unusedVariables false

set_option maxHeartbeats 2000000 in
theorem lin_Coeff (K : Int) (s : ByteArray) (v : Value) (l : List Mono) (w : World) (hv : MonosAt w v l) :
    Calls Try.prog 34 #[.agg #[.int .i64 K, v], .string s] w fun e w' => e = .returned (.int .i64 (coefF s.toList l)) ∧ Up w w' := by
  have hmax := hv.max
  obtain ⟨a, cap, rfl⟩ := hv.slice
  obtain ⟨sl, hsl⟩ : ∃ x, s.toList = x := ⟨_, rfl⟩
  obtain ⟨r, hr⟩ : ∃ r, coefF s.toList l = r := ⟨_, rfl⟩
  rw [hr]
  rw [hsl] at hr
  obtain ⟨n, hn⟩ : ∃ n, l.length = n := ⟨_, rfl⟩
  rw [hn] at hv hmax ⊢
  have HN := Lib.hid hn
  have HR := Lib.hid hr
  have HV := Lib.hid hv
  clear hr hn hv
  go_enter Try.func34, Try.ntmps34
  go_wp2
  obtain ⟨W1, hW1⟩ : ∃ W1, w.alloc (.cells #[.int .i64 K, .slice a n cap] 25) = W1 := ⟨_, rfl⟩
  rw [hW1]
  have HU1 : Hid (Up w W1) := Lib.hid (hW1 ▸ (Up.refl w).alloc _)
  obtain ⟨B, hB⟩ : ∃ B, w.heap.size = B := ⟨_, rfl⟩
  have hrow : W1.heap[B]? = some (.cells #[.int .i64 K, .slice a n cap] 25 (0, 0)) := by
    rw [← hW1, ← hB]; exact heap_alloc_new w _
  have hsz1 : W1.heap.size = B + 1 := by rw [← hW1, size_alloc, hB]
  have HROW := Lib.hid hrow
  clear hrow hW1
  rw [hB]
  have HB := Lib.hid hB
  clear hB
  go_loopw [10] (fun i wr => ∃ k : Nat, k ≤ n ∧ i = .int .i64 k ∧ Up W1 wr ∧ coefF sl (l.drop k) = r) (fun i _ => n - (intOf i).toNat)
  case atStart => exact ⟨0, by omega, rfl, Up.refl _, by rw [List.drop_zero]; exact HR.out⟩
  case round =>
    rename_i wr
    obtain ⟨k, hk, rfl, hU1, hP⟩ := hrel
    have HP := Lib.hid hP
    clear hP
    have hU := HU1.out.trans hU1
    have d1 : wr.cell? ⟨B, 1, none⟩ = some (.slice a n cap) := (hU1.cell _ _ (by omega)).trans (cell_of_row _ _ _ _ _ _ HROW.out)
    have hs1 := hU1.size
    have q3 : B < wr.heap.size := by omega
    by_cases hlt : k < n
    · have hlt2 : (k : Int) < (n : Int) := by omega
      have hk0 : (0 : Int) ≤ (k : Int) := by omega
      obtain ⟨bl, off, s', b, rfl, p1, p2, p3, p4⟩ := HV.out.elem hU k (by rw [HN.out]; exact hlt) HN.out rfl
      obtain ⟨q, hq⟩ : ∃ q, (s'.toList == sl) = q := ⟨_, rfl⟩
      have HP2 : Hid ((if q then b else coefF sl (l.drop (k + 1))) = r) := Lib.hid (by
        rw [← HP.out, drop_mono (by rw [HN.out]; exact hlt) p2, ← hq]; rfl)
      clear p2 HP
      cases q
      · have hq2 : ¬ s'.toList = sl := by simpa using hq
        have HG : Hid (coefF sl (l.drop (k + 1)) = r) := Lib.hid (by rw [← HP2.out]; rfl)
        go_wp2
        go_roundw
        case rel => exact ⟨k + 1, by omega, by go_num, hU1.alloc _, HG.out⟩
        case measure => simp [intOf]; omega
      · have hq2 : s'.toList = sl := by simpa using hq
        have HG : Hid (b = r) := Lib.hid (by rw [← HP2.out]; rfl)
        go_wp2
        go_ret
        exact ⟨ret_int HG.out, hU.alloc _⟩
    · have hlt2 : (n : Int) ≤ (k : Int) := by omega
      obtain rfl : r = 0 := by rw [← HP.out, List.drop_eq_nil_of_le (by rw [HN.out]; omega)]; rfl
      go_wp2
      go_ret
      exact ⟨rfl, hU⟩

def gcdFrom : List Mono → Int → Int
  | [], g => g
  | m :: r, g => gcdFrom r (Int.gcd g (mag m.2) : Int)

set_option maxHeartbeats 8000000 in
theorem lin_Gcd (K : Int) (v : Value) (l : List Mono) (w : World) (hv : MonosAt w v l) (hl : Rng l) :
    Calls Try.prog 36 #[.agg #[.int .i64 K, v]] w fun e w' => e = .returned (.int .i64 (wrap64 (gcdFrom l 0))) ∧ Up w w' := by
  have hmax := hv.max
  obtain ⟨a, cap, rfl⟩ := hv.slice
  obtain ⟨R, hR⟩ : ∃ R, gcdFrom l 0 = R := ⟨_, rfl⟩
  rw [hR]
  obtain ⟨n, hn⟩ : ∃ n, l.length = n := ⟨_, rfl⟩
  rw [hn] at hv hmax ⊢
  have HN := Lib.hid hn
  have HR := Lib.hid hR
  have HV := Lib.hid hv
  have HL := Lib.hid hl
  clear hR hn hv hl
  go_enter Try.func36, Try.ntmps36
  go_wp2
  obtain ⟨W1, hW1⟩ : ∃ W1, w.alloc (.cells #[.int .i64 K, .slice a n cap] 25) = W1 := ⟨_, rfl⟩
  rw [hW1]
  have HU1 : Hid (Up w W1) := Lib.hid (hW1 ▸ (Up.refl w).alloc _)
  obtain ⟨B, hB⟩ : ∃ B, w.heap.size = B := ⟨_, rfl⟩
  have hrow : W1.heap[B]? = some (.cells #[.int .i64 K, .slice a n cap] 25 (0, 0)) := by
    rw [← hW1, ← hB]; exact heap_alloc_new w _
  have hsz1 : W1.heap.size = B + 1 := by rw [← hW1, size_alloc, hB]
  have HROW := Lib.hid hrow
  clear hrow hW1
  try rw [hB]
  have HB := Lib.hid hB
  clear hB
  go_loopw [3, 10] (fun gv iv wr => ∃ (k : Nat) (g : Int), k ≤ n ∧ iv = .int .i64 k ∧ gv = .int .u64 g ∧ (0 ≤ g ∧ g < 18446744073709551616) ∧ Up W1 wr ∧ gcdFrom (l.drop k) g = R) (fun _ iv _ => n - (intOf iv).toNat)
  case atStart => exact ⟨0, 0, by omega, rfl, rfl, by omega, Up.refl _, by rw [List.drop_zero]; exact HR.out⟩
  case round =>
    rename_i wr
    obtain ⟨k, g, hk, rfl, rfl, ⟨g0, g1⟩, hU1, hP⟩ := hrel
    obtain ⟨wo, rfl⟩ : ∃ wo : World, wo = wr := ⟨_, rfl⟩
    have HP := Lib.hid hP
    clear hP
    have hU := HU1.out.trans hU1
    have d1 : wo.cell? ⟨B, 1, none⟩ = some (.slice a n cap) := (hU1.cell _ _ (by omega)).trans (cell_of_row _ _ _ _ _ _ HROW.out)
    have hs1 := hU1.size
    have q3 : B < wo.heap.size := by omega
    by_cases hlt : k < n
    · have hlt2 : (k : Int) < (n : Int) := by omega
      have hk0 : (0 : Int) ≤ (k : Int) := by omega
      obtain ⟨bl, off, s, b, rfl, p1, p2, p3, p4⟩ := HV.out.elem hU k (by rw [HN.out]; exact hlt) HN.out rfl
      obtain ⟨h1, h2⟩ : In64 b := by
        have := HL.out k (by rw [HN.out]; exact hlt)
        rw [p2] at this; exact this
      have HP2 : Hid (gcdFrom (l.drop (k + 1)) (Int.gcd g (mag b) : Int) = R) := Lib.hid (by
        rw [← HP.out, drop_mono (by rw [HN.out]; exact hlt) p2]; rfl)
      obtain ⟨m0, m1, _⟩ := mag_range b ⟨h1, h2⟩
      have HSZ : Hid (∀ w, Calls Try.prog 46 #[.int .i64 b] w fun e w' => e = .returned (.int .u64 (mag b)) ∧ w' = w) := Lib.hid fun w => lin_magnitude b h1 h2 w
      obtain ⟨mb, hmb⟩ : ∃ m, mag b = m := ⟨_, rfl⟩
      rw [hmb] at m0 m1 HP2 HSZ
      have HU := Lib.hid hU1
      have hbl : bl < wo.heap.size := by have := hU.size; omega
      clear p2 HP hmb hU hU1
      go_wp2_with fail
      refine (HSZ.out _).mono ?_
      rintro e x ⟨rfl, hx⟩
      replace hx := hx.symm
      subst hx
      go_wp2
      obtain ⟨W4, hW4⟩ : ∃ W4, wo.alloc (.cells #[.string s, .int .i64 b] 59) = W4 := ⟨_, rfl⟩
      have HU4 : Hid (Up W1 W4) := Lib.hid (hW4 ▸ HU.out.alloc _)
      rw [hW4]
      clear hW4
      go_loopw [3, 6] (fun av bv wr => ∃ x y : Int, av = .int .u64 x ∧ bv = .int .u64 y ∧ (0 ≤ x ∧ x < 18446744073709551616) ∧ (0 ≤ y ∧ y < 18446744073709551616) ∧ Int.gcd x y = Int.gcd g mb ∧ Up W1 wr) (fun _ bv _ => (intOf bv).toNat)
      case atStart => exact ⟨g, mb, rfl, rfl, ⟨g0, g1⟩, ⟨m0, m1⟩, rfl, HU4.out⟩
      case round =>
        rename_i wr
        obtain ⟨x, y, rfl, rfl, ⟨x0, x1⟩, ⟨y0, y1⟩, hG, hUr⟩ := hrel
        have HG := Lib.hid hG
        have HUr := Lib.hid hUr
        clear hG hUr
        by_cases hy : y = 0
        · subst hy
          have HX : Hid ((Int.gcd g mb : Int) = x) := Lib.hid (by rw [← HG.out, Int.gcd_zero_right]; omega)
          go_wp2
          go_roundw
          case rel => exact ⟨k + 1, x, by omega, by go_num, rfl, ⟨x0, x1⟩, HUr.out, by rw [← HX.out]; exact HP2.out⟩
          case measure => simp [intOf]; omega
        · have hy2 : (y != 0) = true := by simpa using hy
          have hy3 : (y == 0) = false := by simpa using hy
          have z0 : 0 ≤ x % y := Int.emod_nonneg _ hy
          have z1 : x % y < y := Int.emod_lt_of_pos _ (by omega)
          have HG2 : Hid (Int.gcd y (x % y) = Int.gcd g mb) := Lib.hid (by rw [gcd_step x y x0 y0]; exact HG.out)
          have hemod : x.tmod y = x % y := Int.tmod_eq_emod_of_nonneg x0
          go_wp2_with fail
          refine wp_region_ext (by kernel_rfl) (by kernel_rfl) ?_
          repeat (go_big_quiet_step (fail))
          refine wpQuiet_nil ?_
          intro x5 hx5
          go_wp2
          go_roundw
          case rel => exact ⟨y, x % y, rfl, rfl, ⟨y0, y1⟩, ⟨z0, by omega⟩, HG2.out, HUr.out.trans hx5⟩
          case measure => simp [intOf]; omega
    · have hlt2 : (n : Int) ≤ (k : Int) := by omega
      have HRE : Hid (R = g) := Lib.hid (by
        rw [← HP.out, List.drop_eq_nil_of_le (by rw [HN.out]; omega)]; rfl)
      go_wp2
      go_ret
      exact ⟨ret_int (by rw [HRE.out]), hU⟩

set_option maxHeartbeats 8000000 in
theorem r05_Gcd (K : Int) (v : Value) (l : List Mono) (w : World) (hv : MonosAt w v l) (hl : Rng l) :
    Calls Try.prog 37 #[.agg #[.int .i64 K, v]] w fun e w' => e = .returned (.int .i64 (wrap64 (gcdFrom l 0))) ∧ Up w w' := by
  have hmax := hv.max
  obtain ⟨a, cap, rfl⟩ := hv.slice
  obtain ⟨R, hR⟩ : ∃ R, gcdFrom l 0 = R := ⟨_, rfl⟩
  rw [hR]
  obtain ⟨n, hn⟩ : ∃ n, l.length = n := ⟨_, rfl⟩
  rw [hn] at hv hmax ⊢
  have HN := Lib.hid hn
  have HR := Lib.hid hR
  have HV := Lib.hid hv
  have HL := Lib.hid hl
  clear hR hn hv hl
  go_enter Try.func37, Try.ntmps37
  go_wp2
  obtain ⟨W1, hW1⟩ : ∃ W1, w.alloc (.cells #[.int .i64 K, .slice a n cap] 25) = W1 := ⟨_, rfl⟩
  rw [hW1]
  have HU1 : Hid (Up w W1) := Lib.hid (hW1 ▸ (Up.refl w).alloc _)
  obtain ⟨B, hB⟩ : ∃ B, w.heap.size = B := ⟨_, rfl⟩
  have hrow : W1.heap[B]? = some (.cells #[.int .i64 K, .slice a n cap] 25 (0, 0)) := by
    rw [← hW1, ← hB]; exact heap_alloc_new w _
  have hsz1 : W1.heap.size = B + 1 := by rw [← hW1, size_alloc, hB]
  have HROW := Lib.hid hrow
  clear hrow hW1
  try rw [hB]
  have HB := Lib.hid hB
  clear hB
  go_loopw [3, 4] (fun gv iv wr => ∃ (k : Nat) (g : Int), k ≤ n ∧ iv = .int .i64 k ∧ gv = .int .u64 g ∧ (0 ≤ g ∧ g < 18446744073709551616) ∧ Up W1 wr ∧ gcdFrom (l.drop k) g = R) (fun _ iv _ => n - (intOf iv).toNat)
  case atStart => exact ⟨0, 0, by omega, rfl, rfl, by omega, Up.refl _, by rw [List.drop_zero]; exact HR.out⟩
  case round =>
    rename_i wr
    obtain ⟨k, g, hk, rfl, rfl, ⟨g0, g1⟩, hU1, hP⟩ := hrel
    obtain ⟨wo, rfl⟩ : ∃ wo : World, wo = wr := ⟨_, rfl⟩
    have HP := Lib.hid hP
    clear hP
    have hU := HU1.out.trans hU1
    have d1 : wo.cell? ⟨B, 1, none⟩ = some (.slice a n cap) := (hU1.cell _ _ (by omega)).trans (cell_of_row _ _ _ _ _ _ HROW.out)
    have hs1 := hU1.size
    have q3 : B < wo.heap.size := by omega
    by_cases hlt : k < n
    · have hlt2 : (k : Int) < (n : Int) := by omega
      have hk0 : (0 : Int) ≤ (k : Int) := by omega
      obtain ⟨bl, off, s, b, rfl, p1, p2, p3, p4⟩ := HV.out.elem hU k (by rw [HN.out]; exact hlt) HN.out rfl
      obtain ⟨h1, h2⟩ : In64 b := by
        have := HL.out k (by rw [HN.out]; exact hlt)
        rw [p2] at this; exact this
      have HP2 : Hid (gcdFrom (l.drop (k + 1)) (Int.gcd g (mag b) : Int) = R) := Lib.hid (by
        rw [← HP.out, drop_mono (by rw [HN.out]; exact hlt) p2]; rfl)
      obtain ⟨m0, m1, _⟩ := mag_range b ⟨h1, h2⟩
      have HSZ : Hid (∀ w, Calls Try.prog 52 #[.int .i64 b] w fun e w' => e = .returned (.int .u64 (mag b)) ∧ w' = w) := Lib.hid fun w => r05_size b h1 h2 w
      obtain ⟨mb, hmb⟩ : ∃ m, mag b = m := ⟨_, rfl⟩
      rw [hmb] at m0 m1 HP2 HSZ
      have HU := Lib.hid hU1
      have hbl : bl < wo.heap.size := by have := hU.size; omega
      clear p2 HP hmb hU hU1
      go_wp2_with fail
      refine (HSZ.out _).mono ?_
      rintro e x ⟨rfl, hx⟩
      replace hx := hx.symm
      subst hx
      go_wp2
      obtain ⟨W4, hW4⟩ : ∃ W4, wo = W4 := ⟨_, rfl⟩
      have HU4 : Hid (Up W1 W4) := Lib.hid (hW4 ▸ HU.out)
      rw [hW4]
      clear hW4
      go_loopw [5, 6] (fun av bv wr => ∃ x y : Int, av = .int .u64 x ∧ bv = .int .u64 y ∧ (0 ≤ x ∧ x < 18446744073709551616) ∧ (0 ≤ y ∧ y < 18446744073709551616) ∧ Int.gcd x y = Int.gcd g mb ∧ Up W1 wr) (fun _ bv _ => (intOf bv).toNat)
      case atStart => exact ⟨g, mb, rfl, rfl, ⟨g0, g1⟩, ⟨m0, m1⟩, rfl, HU4.out⟩
      case round =>
        rename_i wr
        obtain ⟨x, y, rfl, rfl, ⟨x0, x1⟩, ⟨y0, y1⟩, hG, hUr⟩ := hrel
        have HG := Lib.hid hG
        have HUr := Lib.hid hUr
        clear hG hUr
        by_cases hy : y = 0
        · subst hy
          have HX : Hid ((Int.gcd g mb : Int) = x) := Lib.hid (by rw [← HG.out, Int.gcd_zero_right]; omega)
          go_wp2
          go_roundw
          case rel => exact ⟨k + 1, x, by omega, by go_num, rfl, ⟨x0, x1⟩, HUr.out, by rw [← HX.out]; exact HP2.out⟩
          case measure => simp [intOf]; omega
        · have hy2 : (y != 0) = true := by simpa using hy
          have hy3 : (y == 0) = false := by simpa using hy
          have z0 : 0 ≤ x % y := Int.emod_nonneg _ hy
          have z1 : x % y < y := Int.emod_lt_of_pos _ (by omega)
          have HG2 : Hid (Int.gcd y (x % y) = Int.gcd g mb) := Lib.hid (by rw [gcd_step x y x0 y0]; exact HG.out)
          have hemod : x.tmod y = x % y := Int.tmod_eq_emod_of_nonneg x0
          go_wp2_with fail
          refine wp_region_ext (by kernel_rfl) (by kernel_rfl) ?_
          repeat (go_big_quiet_step (fail))
          refine wpQuiet_nil ?_
          intro x5 hx5
          go_wp2
          go_roundw
          case rel => exact ⟨y, x % y, rfl, rfl, ⟨y0, y1⟩, ⟨z0, by omega⟩, HG2.out, HUr.out.trans hx5⟩
          case measure => simp [intOf]; omega
    · have hlt2 : (n : Int) ≤ (k : Int) := by omega
      have HRE : Hid (R = g) := Lib.hid (by
        rw [← HP.out, List.drop_eq_nil_of_le (by rw [HN.out]; omega)]; rfl)
      go_wp2
      go_ret
      exact ⟨ret_int (by rw [HRE.out]), hU⟩

def eqS (l l' : List ByteArray) : Bool := decide (l = l')
theorem eqS_cons (s s' : ByteArray) (l l' : List ByteArray) : eqS (s :: l) (s' :: l') = (decide (s = s') && eqS l l') := by
  unfold eqS; simp
theorem StrsAt.slice {w : World} {v : Value} {l : List ByteArray} (h : StrsAt w v l) : ∃ a cap, v = .slice a l.length cap := by
  obtain ⟨⟨a, cap, hv, _, _⟩, _⟩ := h
  exact ⟨a, cap, hv⟩
theorem StrsAt.elem {w wr : World} {v : Value} {l : List ByteArray} (h : StrsAt w v l) (hU : Up w wr) (k : Nat) (hk : k < l.length) {n : Nat} (hn : l.length = n) {a : Option Addr} {cap : Nat} (hv : v = .slice a n cap) :
    ∃ bl off s, a = some ⟨bl, off, none⟩ ∧ bl < w.heap.size ∧ l.getD k ⟨#[]⟩ = s ∧ wr.cell? ⟨bl, off + k, none⟩ = some (.string s) := by
  subst hn
  obtain ⟨⟨a', cap', hv', h0, hc⟩, hmax⟩ := h
  rw [hv'] at hv
  simp only [Value.slice.injEq] at hv
  obtain ⟨rfl, -, rfl⟩ := hv
  cases a' with
  | none => exact absurd (h0 rfl) (by omega)
  | some x =>
    obtain ⟨g1, g2, g3⟩ := hc x rfl (by omega)
    obtain ⟨bl, off, sp⟩ := x
    have g1' : sp = none := g1
    subst g1'
    have g2' : bl < w.heap.size := g2
    have := (hU.cell _ _ g2').trans (g3 k 0 hk (by omega))
    exact ⟨bl, off, _, rfl, g2', rfl, by simpa only [strF, Nat.add_zero, Nat.mul_one] using this⟩
theorem drop_strs {l : List ByteArray} {k : Nat} (hk : k < l.length) {s : ByteArray} (h : l.getD k ⟨#[]⟩ = s) : l.drop k = s :: l.drop (k + 1) := by
  rw [List.drop_eq_getElem_cons hk, ← h, List.getD_eq_getElem?_getD, List.getElem?_eq_getElem hk]; rfl

set_option maxHeartbeats 2000000 in
theorem base_Strings (v v' : Value) (l l' : List ByteArray) (w : World) (hv : StrsAt w v l) (hv' : StrsAt w v' l') :
    Calls Try.prog 38 #[v, v'] w fun e w' => e = .returned (.bool (eqS l l')) ∧ Up w w' := by
  have hmax := hv.max
  have hmax' := hv'.max
  obtain ⟨r, hr⟩ : ∃ r, eqS l l' = r := ⟨_, rfl⟩
  rw [hr]
  obtain ⟨a, cap, rfl⟩ := hv.slice
  obtain ⟨a', cap', rfl⟩ := hv'.slice
  obtain ⟨n, hn⟩ : ∃ n, l.length = n := ⟨_, rfl⟩
  obtain ⟨n', hn'⟩ : ∃ n, l'.length = n := ⟨_, rfl⟩
  rw [hn] at hv hmax ⊢
  rw [hn'] at hv' hmax' ⊢
  have HV := Lib.hid hv
  have HV' := Lib.hid hv'
  have HN := Lib.hid hn
  have HN' := Lib.hid hn'
  have HR := Lib.hid hr
  clear hr hn hv hv' hn'
  by_cases hnn : n = n'
  · subst hnn
    go_enter Try.func38, Try.ntmps38
    go_wp2
    go_loopw [5] (fun i wr => ∃ k : Nat, k ≤ n ∧ i = .int .i64 k ∧ Up w wr ∧ eqS (l.drop k) (l'.drop k) = r) (fun i _ => n - (intOf i).toNat)
    case atStart => exact ⟨0, by omega, rfl, Up.refl _, by rw [List.drop_zero, List.drop_zero]; exact HR.out⟩
    case round =>
      rename_i wr
      obtain ⟨k, hk, rfl, hU, hP⟩ := hrel
      have HP := Lib.hid hP
      clear hP
      by_cases hlt : k < n
      · have hlt2 : (k : Int) < (n : Int) := by omega
        have hk0 : (0 : Int) ≤ (k : Int) := by omega
        obtain ⟨bl, off, s, rfl, p1, p2, p3⟩ := HV.out.elem hU k (by rw [HN.out]; exact hlt) HN.out rfl
        obtain ⟨bl', off', s', rfl, p1', p2', p3'⟩ := HV'.out.elem hU k (by rw [HN'.out]; exact hlt) HN'.out rfl
        have hs := hU.size
        have q1 : bl < wr.heap.size := by omega
        have q2 : bl' < wr.heap.size := by omega
        have HP2 : Hid ((decide (s = s') && eqS (l.drop (k + 1)) (l'.drop (k + 1))) = r) := Lib.hid (by
          rw [← HP.out, drop_strs (by rw [HN.out]; exact hlt) p2, drop_strs (l := l') (by rw [HN'.out]; exact hlt) p2', eqS_cons])
        clear p2 p2' HP
        by_cases hss : s = s'
        · subst hss
          have HG : Hid (eqS (l.drop (k + 1)) (l'.drop (k + 1)) = r) := Lib.hid (by rw [← HP2.out]; simp)
          go_wp2_with fail
          refine wp_region_ext (by kernel_rfl) (by kernel_rfl) ?_
          repeat (go_big_quiet_step (fail))
          refine wpQuiet_nil ?_
          intro x hx
          go_wp2
          go_roundw
          case rel => exact ⟨k + 1, by omega, by go_num, hU.trans hx, HG.out⟩
          case measure => simp [intOf]; omega
        · have hs2 : (s.toList == s'.toList) = false := by simpa using fun e => hss (toList_inj e)
          have HG : Hid (false = r) := Lib.hid (by rw [← HP2.out]; simp [hss])
          go_wp2_with fail
          refine wp_region_ext (by kernel_rfl) (by kernel_rfl) ?_
          repeat (go_big_quiet_step (fail))
          refine wpQuiet_nil ?_
          intro x hx
          go_wp2
          go_ret
          exact ⟨ret_bool HG.out, hU.trans hx⟩
      · have hlt2 : (n : Int) ≤ (k : Int) := by omega
        obtain rfl : r = true := by rw [← HP.out, List.drop_eq_nil_of_le (by rw [HN.out]; omega), List.drop_eq_nil_of_le (by rw [HN'.out]; omega)]; rfl
        go_wp2
        go_ret
        exact ⟨rfl, hU⟩
  · have h1 : ((n : Int) == (n' : Int)) = false := by simpa using (by omega : ¬ (n : Int) = (n' : Int))
    have HG : Hid (false = r) := Lib.hid (by
      rw [← HR.out]; unfold eqS
      exact (decide_eq_false fun e => hnn (by rw [← HN.out, ← HN'.out, e])).symm)
    go_enter Try.func38, Try.ntmps38
    go_wp2
    go_ret
    exact ⟨ret_bool HG.out, Up.refl _⟩
end Go.Proofs.Ytpclbgaaoednnaa
