/-
  The law's own checks: near, nearLin, nearEnv.
-/
import Derived.Test.YtpclbgaaoednnaaLinS
namespace Go.Proofs.Ytpclbgaaoednnaa
open Go.ChangeShapes Go.WideShapes Go.ChangeAt Go.RowKit
set_option linter.unusedVariables false

def nearB (n : Int) : Bool := decide (-1048576 ≤ n) && decide (n ≤ 1048576)
theorem law05_near (n : Int) (w : World) : Calls Try.prog 33 #[.int .i64 n] w fun e w' => e = .returned (.bool (nearB n)) ∧ w' = w := by
  by_cases h1 : -1048576 ≤ n
  · by_cases h2 : n ≤ 1048576
    · have : nearB n = true := by unfold nearB; rw [decide_eq_true h1, decide_eq_true h2]; rfl
      rw [this]
      go_enter Try.func33, Try.ntmps33
      go_wp2
      go_ret
      exact ⟨by first | rfl | exact ret_bool (by simp), rfl⟩
    · have : nearB n = false := by unfold nearB; rw [decide_eq_false h2]; simp
      rw [this]
      have h3 : 1048576 < n := by omega
      go_enter Try.func33, Try.ntmps33
      go_wp2
      go_ret
      exact ⟨ret_bool (by first | (simp; done) | (simp; omega)), rfl⟩
  · have : nearB n = false := by unfold nearB; rw [decide_eq_false h1]; rfl
    rw [this]
    have h3 : n < -1048576 := by omega
    go_enter Try.func33, Try.ntmps33
    go_wp2
    go_ret
    exact ⟨ret_bool (by simp), rfl⟩

def nearAll (l : List Mono) : Bool := l.all fun m => nearB m.2
def nearL (K : Int) (l : List Mono) : Bool := smallB l && nearB K && nearAll l
def nearE (l : List Mono) : Bool := decide (l.length ≤ 40) && nearAll l

set_option maxHeartbeats 2000000 in
theorem law05_nearEnv (v : Value) (l : List Mono) (w : World) (hv : MonosAt w v l) :
    Calls Try.prog 29 #[v] w fun e w' => e = .returned (.bool (nearE l)) ∧ Up w w' := by
  have hmax := hv.max
  obtain ⟨a, cap, rfl⟩ := hv.slice
  obtain ⟨r, hr⟩ : ∃ r, nearE l = r := ⟨_, rfl⟩
  rw [hr]
  obtain ⟨n, hn⟩ : ∃ n, l.length = n := ⟨_, rfl⟩
  rw [hn] at hv hmax ⊢
  have HN := Lib.hid hn
  have HR := Lib.hid hr
  have HV := Lib.hid hv
  clear hr hn hv
  by_cases h40 : 40 < n
  · have h1 : (40 : Int) < (n : Int) := by omega
    obtain rfl : r = false := by
      rw [← HR.out]
      have : decide (l.length ≤ 40) = false := decide_eq_false (by rw [HN.out]; omega)
      unfold nearE; rw [this]; rfl
    go_enter Try.func29, Try.ntmps29
    go_wp2
    go_ret
    exact ⟨rfl, Up.refl w⟩
  · have h1 : (n : Int) ≤ 40 := by omega
    have HR2 : Hid (nearAll l = r) := Lib.hid (by
      rw [← HR.out]
      have : decide (l.length ≤ 40) = true := decide_eq_true (by rw [HN.out]; omega)
      unfold nearE; rw [this]; rfl)
    go_enter Try.func29, Try.ntmps29
    go_wp2
    go_loopw [3] (fun i wr => ∃ k : Nat, k ≤ n ∧ i = .int .i64 k ∧ Up w wr ∧ nearAll (l.drop k) = r) (fun i _ => n - (intOf i).toNat)
    case atStart => exact ⟨0, by omega, rfl, Up.refl _, by rw [List.drop_zero]; exact HR2.out⟩
    case round =>
      rename_i wr
      obtain ⟨k, hk, rfl, hU, hP⟩ := hrel
      have HP := Lib.hid hP
      clear hP
      by_cases hlt : k < n
      · have hlt2 : (k : Int) < (n : Int) := by omega
        have hk0 : (0 : Int) ≤ (k : Int) := by omega
        obtain ⟨bl, off, s, b, rfl, p1, p2, p3, p4⟩ := HV.out.elem hU k (by rw [HN.out]; exact hlt) HN.out rfl
        obtain ⟨q, hq⟩ : ∃ q, nearB b = q := ⟨_, rfl⟩
        have HP2 : Hid ((q && nearAll (l.drop (k + 1))) = r) := Lib.hid (by
          rw [← HP.out, drop_mono (by rw [HN.out]; exact hlt) p2, ← hq]; rfl)
        have HNB : Hid (∀ w, Calls Try.prog 33 #[.int .i64 b] w fun e w' => e = .returned (.bool q) ∧ w' = w) := Lib.hid (hq ▸ law05_near b)
        clear p2 HP hq
        go_wp2_with fail
        refine (HNB.out _).mono ?_
        rintro e x ⟨rfl, hx⟩
        replace hx := hx.symm
        subst hx
        cases q
        · have HG : Hid (false = r) := Lib.hid (by rw [← HP2.out]; rfl)
          go_wp2
          go_ret
          exact ⟨ret_bool HG.out, hU⟩
        · have HG : Hid (nearAll (l.drop (k + 1)) = r) := Lib.hid (by rw [← HP2.out]; rfl)
          go_wp2
          go_roundw
          case rel => exact ⟨k + 1, by omega, by go_num, hU, HG.out⟩
          case measure => simp [intOf]; omega
      · have hlt2 : (n : Int) ≤ (k : Int) := by omega
        obtain rfl : r = true := by rw [← HP.out, List.drop_eq_nil_of_le (by rw [HN.out]; omega)]; rfl
        go_wp2
        go_ret
        exact ⟨rfl, hU⟩

set_option maxHeartbeats 2000000 in
theorem law05_nearLin (K : Int) (v : Value) (l : List Mono) (w : World) (hv : MonosAt w v l) :
    Calls Try.prog 28 #[.agg #[.int .i64 K, v]] w fun e w' => e = .returned (.bool (nearL K l)) ∧ Up w w' := by
  have hmax := hv.max
  obtain ⟨a, cap, rfl⟩ := hv.slice
  obtain ⟨r, hr⟩ : ∃ r, nearL K l = r := ⟨_, rfl⟩
  rw [hr]
  obtain ⟨n, hn⟩ : ∃ n, l.length = n := ⟨_, rfl⟩
  rw [hn] at hv hmax ⊢
  have HN := Lib.hid hn
  have HR := Lib.hid hr
  have HV := Lib.hid hv
  obtain ⟨q, hq⟩ : ∃ q, smallB l = q := ⟨_, rfl⟩
  obtain ⟨p, hp⟩ : ∃ q, nearB K = q := ⟨_, rfl⟩
  have HSM : Hid (∀ w, MonosAt w (.slice a n cap) l → Calls Try.prog 18 #[.agg #[.int .i64 K, .slice a n cap]] w fun e w' => e = .returned (.bool q) ∧ Up w w') := Lib.hid fun w h => by
    have := r05_Small K _ l w h
    rw [hq] at this; exact this
  have HNK : Hid (∀ w, Calls Try.prog 33 #[.int .i64 K] w fun e w' => e = .returned (.bool p) ∧ w' = w) := Lib.hid (hp ▸ law05_near K)
  have HRR : Hid ((q && p && nearAll l) = r) := Lib.hid (by rw [← hr, ← hq, ← hp]; rfl)
  clear hr hn hv hq hp
  go_enter Try.func28, Try.ntmps28
  go_wp2_with fail
  refine (HSM.out _ (HV.out.up ((Up.refl w).alloc _))).mono ?_
  rintro e x1 ⟨rfl, hx1⟩
  have hs := hx1.size
  rw [size_alloc] at hs
  have b0 : x1.cell? ⟨w.heap.size, 0, none⟩ = some (.int .i64 K) := (hx1.cell _ _ (by rw [size_alloc]; omega)).trans (by go_simp)
  have b1 : x1.cell? ⟨w.heap.size, 1, none⟩ = some (.slice a n cap) := (hx1.cell _ _ (by rw [size_alloc]; omega)).trans (by go_simp)
  have HU1 := Lib.hid (((Up.refl w).alloc (.cells #[.int .i64 K, .slice a n cap] 25)).trans hx1)
  clear hx1
  have q0 : w.heap.size < x1.heap.size := by omega
  cases q
  · obtain rfl : r = false := by rw [← HRR.out]; rfl
    go_wp2
    go_ret
    exact ⟨rfl, HU1.out⟩
  go_wp2_with fail
  refine (HNK.out _).mono ?_
  rintro e x ⟨rfl, hx⟩
  replace hx := hx.symm
  subst hx
  cases p
  · obtain rfl : r = false := by rw [← HRR.out]; rfl
    go_wp2
    go_ret
    exact ⟨rfl, HU1.out⟩
  have HR2 : Hid (nearAll l = r) := Lib.hid (by rw [← HRR.out]; rfl)
  have HB1 := Lib.hid b1
  obtain ⟨B, hB⟩ : ∃ B, w.heap.size = B := ⟨_, rfl⟩
  rw [hB] at HB1 q0
  clear b0 b1
  go_wp2
  try rw [hB]
  clear hB
  go_loopw [3] (fun i wr => ∃ k : Nat, k ≤ n ∧ i = .int .i64 k ∧ Up x1 wr ∧ nearAll (l.drop k) = r) (fun i _ => n - (intOf i).toNat)
  case atStart => exact ⟨0, by omega, rfl, Up.refl _, by rw [List.drop_zero]; exact HR2.out⟩
  case round =>
    rename_i wr
    obtain ⟨k, hk, rfl, hU1, hP⟩ := hrel
    have HP := Lib.hid hP
    clear hP
    have hU := HU1.out.trans hU1
    have d1 : wr.cell? ⟨B, 1, none⟩ = some (.slice a n cap) := (hU1.cell _ _ q0).trans HB1.out
    have hs1 := hU1.size
    have q3 : B < wr.heap.size := by omega
    by_cases hlt : k < n
    · have hlt2 : (k : Int) < (n : Int) := by omega
      have hk0 : (0 : Int) ≤ (k : Int) := by omega
      obtain ⟨bl, off, s, b, rfl, p1, p2, p3, p4⟩ := HV.out.elem hU k (by rw [HN.out]; exact hlt) HN.out rfl
      obtain ⟨q, hq⟩ : ∃ q, nearB b = q := ⟨_, rfl⟩
      have HP2 : Hid ((q && nearAll (l.drop (k + 1))) = r) := Lib.hid (by
        rw [← HP.out, drop_mono (by rw [HN.out]; exact hlt) p2, ← hq]; rfl)
      have HNB : Hid (∀ w, Calls Try.prog 33 #[.int .i64 b] w fun e w' => e = .returned (.bool q) ∧ w' = w) := Lib.hid (hq ▸ law05_near b)
      clear p2 HP hq
      go_wp2_with fail
      refine (HNB.out _).mono ?_
      rintro e x ⟨rfl, hx⟩
      replace hx := hx.symm
      subst hx
      cases q
      · have HG : Hid (false = r) := Lib.hid (by rw [← HP2.out]; rfl)
        go_wp2
        go_ret
        exact ⟨ret_bool HG.out, hU⟩
      · have HG : Hid (nearAll (l.drop (k + 1)) = r) := Lib.hid (by rw [← HP2.out]; rfl)
        go_wp2
        go_roundw
        case rel => exact ⟨k + 1, by omega, by go_num, hU1, HG.out⟩
        case measure => simp [intOf]; omega
    · have hlt2 : (n : Int) ≤ (k : Int) := by omega
      obtain rfl : r = true := by rw [← HP.out, List.drop_eq_nil_of_le (by rw [HN.out]; omega)]; rfl
      go_wp2
      go_ret
      exact ⟨rfl, hU⟩
end Go.Proofs.Ytpclbgaaoednnaa
