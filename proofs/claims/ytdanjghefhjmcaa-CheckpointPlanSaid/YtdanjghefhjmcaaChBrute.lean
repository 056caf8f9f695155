/-
  The table of costs by trying all first states (chapter 28, the program's side): the walk.
-/
import Derived.Test.YtdanjghefhjmcaaChBruteP
import Derived.Deep.RegionWith
namespace Go.Proofs.Ytdanjghefhjmcaa
open Go.ChangeShapes Go.WideShapes Go.ChangeAt Go.RowKit
set_option linter.unusedVariables false
set_option linter.unusedSimpArgs false

set_option maxHeartbeats 8000000 in
set_option maxRecDepth 100000 in
theorem chk_costs (w : World) : Calls Try.prog 31 #[] w fun e w' => e = .returned (.tuple #[.pointer (some ⟨w.heap.size, 0, none⟩), .pointer (some ⟨w.heap.size + 1, 0, none⟩)]) ∧ TwoTabs0 w w' 65 0 := by
  have hz0 := (zero_of_info tabC_zero).1
  have hz1 := (zero_of_info tabC_zero).2
  have hsz := tabC_size
  have hini : TwoTabs0 w ((w.alloc (.cells tabC 68)).alloc (.cells tabC 68)) 2 0 := by
    have r0 : ((w.alloc (.cells tabC 68)).alloc (.cells tabC 68)).heap[w.heap.size]? = some (.cells tabC 68 (0, 0)) := (Below.heap_alloc _ _ _ (by simp)).trans (heap_alloc_last w _)
    have r1 : ((w.alloc (.cells tabC 68)).alloc (.cells tabC 68)).heap[w.heap.size + 1]? = some (.cells tabC 68 (0, 0)) := by
      have := heap_alloc_last (w.alloc (.cells tabC 68)) (.cells tabC 68)
      simpa using this
    refine ⟨fun _ _ => 0, fun _ _ => 0, ⟨by simp; omega, fun n s hn hs => ?_, fun o => frozen_of_row _ _ o _ _ r0⟩, ⟨by simp, fun n s hn hs => ?_, fun o => frozen_of_row _ _ o _ _ r1⟩, ((Up.refl w).alloc _).alloc _, fun a b ha hb h => ?_, fun _ _ _ _ _ => rfl⟩
    · rw [cell_of_row _ _ _ _ _ _ r0]; exact tabC_get _ (by omega)
    · rw [cell_of_row _ _ _ _ _ _ r1]; exact tabC_get _ (by omega)
    · rw [low_zero a b hb (by omega), firstF, if_pos (by omega)]; exact ⟨rfl, rfl⟩
  have HI := Lib.hid hini
  clear hini
  obtain ⟨B, hB⟩ : ∃ B, w.heap.size = B := ⟨_, rfl⟩
  have HB := Lib.hid hB
  clear hB
  go_enter Try.func31, Try.ntmps31
  go_wp2
  clear hz0 hz1 hsz
  go_loopw [4] (fun nv wr => ∃ n : Nat, 2 ≤ n ∧ n ≤ 65 ∧ nv = .int .i64 n ∧ TwoTabs0 w wr n 0) (fun nv _ => 65 - (intOf nv).toNat)
  case atStart => exact ⟨2, by omega, by omega, rfl, HI.out⟩
  case round =>
    obtain ⟨w1, hw1⟩ : ∃ x, x = wr := ⟨_, rfl⟩
    subst hw1
    obtain ⟨n, hn2, hn, rfl, hT⟩ := hrel
    have HT := Lib.hid hT
    by_cases hlt : n ≤ 64
    · obtain ⟨cf, ff, t1, _, _, t4, _⟩ := hT
      have hlt2 : (n : Int) ≤ 64 := by omega
      obtain ⟨P, hP⟩ : ∃ P : Nat, n * (n - 1) = P := ⟨_, rfl⟩
      have hPi : (n : Int) * ((n : Int) - 1) = (P : Int) := by rw [← hP, Int.natCast_mul, Int.natCast_sub (by omega)]; rfl
      have hP1 : P ≤ 64 * 64 := by rw [← hP]; exact Nat.mul_le_mul (by omega) (by omega)
      have hP2 : (P : Int) ≤ 4096 := by omega
      have hP3 : (0 : Int) ≤ (P : Int) := by omega
      obtain ⟨D, hD⟩ : ∃ B : Nat, P / 2 = B := ⟨_, rfl⟩
      have hdv : (P : Int) / 2 = (D : Int) := by rw [← hD]; simp
      have HD1 : Hid (costF n 0 = D) := Lib.hid (by rw [← rec_zero n hlt, hP, hD])
      have HD2 : Hid (∀ s, bfK n s 0 = (D, 0)) := Lib.hid (fun s => by rw [bfK, hP, hD])
      have hDb : D ≤ 2048 := by omega
      have c0 : w1.cell? ⟨w.heap.size, n * 65, none⟩ = some (.int .i64 (cf n 0)) := t1.cell n 0 hlt (by omega)
      have z0 := t1.froz
      clear t1 t4 hP hD hP1
      go_wp2
      clear c0 z0
      go_loopw [5] (fun sv wr => ∃ s : Nat, 1 ≤ s ∧ s ≤ 65 ∧ sv = .int .i64 s ∧ TwoTabs0 w wr n s) (fun sv _ => 65 - (intOf sv).toNat)
      case atStart => exact ⟨1, by omega, by omega, rfl, HT.out.head hlt HD1.out⟩
      case round =>
        obtain ⟨w2, hw2⟩ : ∃ x, x = wr := ⟨_, rfl⟩
        subst hw2
        obtain ⟨s, hs1, hs2, rfl, hT2⟩ := hrel
        have HT2 := Lib.hid hT2
        by_cases hsl : s ≤ 64
        · have hsl2 : (s : Int) ≤ 64 := by omega
          obtain ⟨cf2, ff2, t1, _, _, t4, _⟩ := hT2
          have c0 : w2.cell? ⟨w.heap.size, n * 65, none⟩ = some (.int .i64 D) := by
            have := t1.cell n 0 hlt (by omega)
            rw [(t4 n 0 hlt (by omega) (Or.inr ⟨rfl, by omega⟩)).1, HD1.out] at this
            exact this
          have CA : Hid (∀ (W : World), Up w2 W → ∀ a b, a ≤ 64 → b ≤ 64 → (a < n ∨ (a = n ∧ b < s)) → W.cell? ⟨w.heap.size, a * 65 + b, none⟩ = some (.int .i64 (costF a b))) := Lib.hid (fun W hW a b ha hb h => by
            rw [(hW.cell _ _ t1.lt), t1.cell a b ha hb, (t4 a b ha hb h).1])
          obtain ⟨s', rfl⟩ : ∃ s', s = s' + 1 := ⟨s - 1, by omega⟩
          have hsl3 : (s' : Int) + 1 ≤ 64 := by omega
          clear t1 t4
          go_wp2
          clear c0
          go_loopw [6, 7, 8] (fun bv av jv w3 => ∃ k bb aa : Nat, k ≤ n - 1 ∧ jv = .int .i64 (k + 1) ∧ bv = .int .i64 bb ∧ av = .int .i64 aa ∧ bb ≤ 8256 ∧ aa ≤ 64 ∧ bfK n (s' + 1) k = (bb, aa) ∧ Up w2 w3) (fun _ _ jv _ => n + 1 - (intOf jv).toNat)
          case atStart => exact ⟨0, D, 0, by omega, rfl, rfl, rfl, by omega, by omega, HD2.out _, Up.refl _⟩
          case round =>
            obtain ⟨w3, hw3⟩ : ∃ x, x = wr := ⟨_, rfl⟩
            subst hw3
            obtain ⟨k, bb, aa, hk, rfl, rfl, rfl, hbb, haa, hbk, hU3⟩ := hrel
            have HBK := Lib.hid hbk
            have HU3 := Lib.hid hU3
            have hbb2 : (bb : Int) ≤ 8256 := by omega
            clear hbk hU3
            by_cases hc : k + 1 < n
            · obtain ⟨r, hr⟩ : ∃ r, n - (k + 1) = r := ⟨_, rfl⟩
              obtain ⟨A, hA⟩ : ∃ A, costF r s' = A := ⟨_, rfl⟩
              obtain ⟨C, hC⟩ : ∃ A, costF (k + 1) (s' + 1) = A := ⟨_, rfl⟩
              have k1 : w3.cell? ⟨w.heap.size, r * 65 + s', none⟩ = some (.int .i64 A) := by rw [← hA]; exact CA.out w3 HU3.out r s' (by omega) (by omega) (by omega)
              have k2 : w3.cell? ⟨w.heap.size, (k + 1) * 65 + (s' + 1), none⟩ = some (.int .i64 C) := by rw [← hC]; exact CA.out w3 HU3.out (k + 1) (s' + 1) (by omega) (by omega) (by omega)
              have hA2 : (A : Int) ≤ 4096 := by have := costF_le r s' (by omega) (by omega); omega
              have hC2 : (C : Int) ≤ 4096 := by have := costF_le (k + 1) (s' + 1) (by omega) (by omega); omega
              have hA0 : (0 : Int) ≤ (A : Int) := by omega
              have hC0 : (0 : Int) ≤ (C : Int) := by omega
              have HNX : Hid (bfK n (s' + 1) (k + 1) = if aa = 0 ∨ k + 1 + A + C < bb then (k + 1 + A + C, k + 1) else (bb, aa)) := Lib.hid (by
                rw [bfK, HBK.out, hr]; simp only [Nat.add_sub_cancel]; rw [hA, hC])
              have hsub : (n : Int) - ((k : Int) + 1) = (r : Int) := by omega
              have hr64 : (r : Int) < 65 := by omega
              have hk64 : (k : Int) + 1 < 65 := by omega
              have hkn : (k : Int) + 1 < (n : Int) := by omega
              have hs64 : (s' : Int) + 1 < 65 := by omega
              have hs65 : (s' : Int) < 65 := by omega
              have hk0 : (0 : Int) ≤ (k : Int) + 1 := by omega
              have hs0 : (0 : Int) ≤ (s' : Int) + 1 := by omega
              have hkc : (n : Int) ≤ 64 := by omega
              clear hr hA hC
              by_cases e0 : aa = 0
              · have e1 : ((aa : Int) == 0) = true := by simp; omega
                have E0 := Lib.hid e0
                clear e0
                go_wp2
                go_quiet (fail)
                go_wp2
                go_roundw
                case rel => exact ⟨k + 1, k + 1 + A + C, k + 1, by omega, by go_num, by go_num, by go_num, by omega, by omega, by rw [HNX.out, if_pos (Or.inl E0.out)], HU3.out.drewN _⟩
                case measure => simp [intOf]; omega
              · have e1 : ((aa : Int) == 0) = false := by simp; omega
                by_cases e2 : k + 1 + A + C < bb
                · have e3 : (k : Int) + 1 + (A : Int) + (C : Int) < (bb : Int) := by omega
                  go_wp2
                  go_quiet (fail)
                  go_wp2
                  go_roundw
                  case rel => exact ⟨k + 1, k + 1 + A + C, k + 1, by omega, by go_num, by go_num, by go_num, by omega, by omega, by rw [HNX.out, if_pos (Or.inr e2)], HU3.out.drewN _⟩
                  case measure => simp [intOf]; omega
                · have e3 : (bb : Int) ≤ (k : Int) + 1 + (A : Int) + (C : Int) := by omega
                  go_wp2
                  go_quiet (fail)
                  go_wp2
                  go_roundw
                  case rel => exact ⟨k + 1, bb, aa, by omega, by go_num, by go_num, by go_num, by omega, by omega, by rw [HNX.out, if_neg (by omega)], HU3.out.drewN _⟩
                  case measure => simp [intOf]; omega
            · obtain rfl : k = n - 1 := by omega
              have hkc : (n : Int) ≤ ((n - 1 : Nat) : Int) + 1 := by omega
              have HC1 : Hid (costF n (s' + 1) = bb) := Lib.hid (by rw [← bf_cost n (s' + 1) hlt (by omega) hn2 (by omega), HBK.out])
              have HF1 : Hid (firstF n (s' + 1) = aa) := Lib.hid (by rw [firstF, if_neg (by omega), HBK.out])
              have T3 := Lib.hid (HT2.out.up HU3.out)
              obtain ⟨cf3, ff3, u1, u2, _, _, _⟩ := HT2.out.up HU3.out
              have k1 : w3.cell? ⟨w.heap.size, n * 65 + (s' + 1), none⟩ = some (.int .i64 (cf3 n (s' + 1))) := u1.cell n (s' + 1) hlt (by omega)
              have k2 : w3.cell? ⟨w.heap.size + 1, n * 65 + (s' + 1), none⟩ = some (.int .i64 (ff3 n (s' + 1))) := u2.cell n (s' + 1) hlt (by omega)
              have z1 := u1.froz
              have z2 := u2.froz
              have hs64 : (s' : Int) + 1 < 65 := by omega
              have hn64 : (n : Int) < 65 := by omega
              have hs0 : (0 : Int) ≤ (s' : Int) + 1 := by omega
              clear u1 u2
              go_wp2
              go_region_with (fail)
              all_goals
                go_wp2
                go_roundw
                case rel =>
                  refine ⟨s' + 1 + 1, by omega, by omega, by go_num, ?_⟩
                  first
                    | exact T3.out.next1 hlt (by omega) HC1.out HF1.out
                    | exact T3.out.next2 hlt (by omega) HC1.out HF1.out
                    | exact (T3.out.up ((Up.refl _).drew)).next1 hlt (by omega) HC1.out HF1.out
                    | exact (T3.out.up ((Up.refl _).drew)).next2 hlt (by omega) HC1.out HF1.out
                case measure => simp [intOf]; omega
        · obtain rfl : s = 65 := by omega
          clear hT2
          go_wp2
          go_roundw
          case rel => exact ⟨n + 1, by omega, by omega, by go_num, HT2.out.row⟩
          case measure => simp [intOf]; omega
    · have hlt2 : (64 : Int) < (n : Int) := by omega
      obtain rfl : n = 65 := by omega
      clear hT
      go_wp2
      go_ret2
      exact ⟨rfl, HT.out⟩
end Go.Proofs.Ytdanjghefhjmcaa
