/-
  Negate of the reference.
-/
import Derived.Test.YtahlecmlhdikjaaDoorGj
import Derived.Test.YtahlecmlhdikjaaDoorCoR
namespace Go.Proofs.YtahlecmlhdikjaaDoor
open Go.ChangeShapes Go.WideShapes Go.ChangeAt Go.RowKit
set_option linter.unusedVariables false
set_option linter.unusedSimpArgs false
set_option maxRecDepth 100000

set_option maxHeartbeats 8000000 in
theorem r06_Negate (K : Int) (v : Value) (l : List Mono) (b : Bool) (w : World) (hv : Part w v l) (hK : In64 K) (hlen : l.length ≤ 1000) :
    Calls Tryd.prog 21 #[.agg #[.int .i64 K, v, .bool b]] w (ConsErr w (negF (K, l, b))) := by
  obtain ⟨i0, hi0, hz0, hz1, hz2⟩ := info_parts mono_info
  obtain ⟨r, hr⟩ : ∃ r, negF (K, l, b) = r := ⟨_, rfl⟩
  rw [hr]
  obtain ⟨hm, hrg, hcp⟩ := hv
  have HV := Lib.hid hm
  have HL := Lib.hid hrg
  have HK := Lib.hid hK
  obtain ⟨k0, k1⟩ := hK
  obtain ⟨a, cap, rfl⟩ := hm.slice
  obtain ⟨n, hn⟩ : ∃ n, l.length = n := ⟨_, rfl⟩
  rw [hn] at HV ⊢
  obtain ⟨q, hq⟩ : ∃ q, okL l = q := ⟨_, rfl⟩
  have HVA : Hid (∀ w, MonosAt w (.slice a n cap) l → Calls Tryd.prog 32 #[.agg #[.int .i64 K, .slice a n cap, .bool b]] w fun e w' => e = .returned (.int .i64 (errOf q)) ∧ Up w w') := Lib.hid fun w h => by
    have := r06_Validate K _ l b w h
    rw [hq] at this; exact this
  have HR : Hid ((if q then (if negFit l then (if b then (if K = -9223372036854775808 then ([], 3) else ([(K - 1, l, false), (-1 - K, negL l, false)], 0)) else ([(-1 - K, negL l, false)], 0)) else ([], 3)) else (([] : List Con), (1 : Int))) = r) := Lib.hid (by
    rw [← hr]; unfold negF; dsimp only; rw [hq])
  have HN := Lib.hid hn
  rw [hn] at hlen
  have hnI : (n : Int) ≤ 1000 := by omega
  obtain ⟨Ko, hKo⟩ : ∃ x, -1 - K = x := ⟨_, rfl⟩
  have HKO := Lib.hid hKo
  have g0 : -9223372036854775808 ≤ Ko := by omega
  have g1 : Ko ≤ 9223372036854775807 := by omega
  have hxo : bits .xor .i64 (-1) K = Ko := by rw [not64 HK.out, hKo]
  have hsg : IntKind.i64.signed = true := rfl
  clear hr hm hrg hcp hn hq
  go_enter Tryd.func21, Tryd.ntmps21
  go_wp2_with fail
  refine (HVA.out _ (HV.out.up ((Up.refl w).alloc _))).mono ?_
  rintro e x1 ⟨rfl, hx1⟩
  have hs := hx1.size
  rw [size_alloc] at hs
  have d0 : x1.cell? ⟨w.heap.size, 0, none⟩ = some (.int .i64 K) := (hx1.cell _ _ (by rw [size_alloc]; omega)).trans (by go_simp)
  have d1 : x1.cell? ⟨w.heap.size, 1, none⟩ = some (.slice a n cap) := (hx1.cell _ _ (by rw [size_alloc]; omega)).trans (by go_simp)
  have d2 : x1.cell? ⟨w.heap.size, 2, none⟩ = some (.bool b) := (hx1.cell _ _ (by rw [size_alloc]; omega)).trans (by go_simp)
  have HU1 := Lib.hid (((Up.refl w).alloc (.cells #[.int .i64 K, .slice a n cap, .bool b] 26)).trans hx1)
  have q0 : w.heap.size < x1.heap.size := by omega
  clear hx1 hs HVA
  cases q
  · rw [show errOf false = 1 from rfl]
    have HG : Hid (r = ([], 1)) := Lib.hid (by rw [← HR.out]; rfl)
    go_wp2
    go_ret2
    exact ⟨⟨.slice none 0 0, by rw [HG.out]; rfl, by rw [HG.out]; exact cons_nil _⟩, HU1.out⟩
  rw [show errOf true = 0 from rfl]
  replace HR := Lib.hid ((if_pos rfl).symm.trans HR.out)
  go_wp2
  obtain ⟨O, hO⟩ : ∃ O, x1.heap.size = O := ⟨_, rfl⟩
  have hO3 := OutC.new x1 Ko false
  have hal : Up x1 (x1.alloc (.cells #[.int .i64 Ko, .slice none 0 0, .bool false] 26)) := (Up.refl x1).alloc _
  have e0 := (hal.cell _ _ q0).trans d0
  have e1 := (hal.cell _ _ q0).trans d1
  have e2 := (hal.cell _ _ q0).trans d2
  have HU3 := Lib.hid (HU1.out.trans hal)
  obtain ⟨W3, hW3⟩ : ∃ W, x1.alloc (.cells #[.int .i64 Ko, .slice none 0 0, .bool false] 26) = W := ⟨_, rfl⟩
  rw [hO] at hO3 q0
  rw [hW3] at hO3 e0 e1 e2 HU3 ⊢
  try rw [hO]
  have HO3 := Lib.hid hO3
  have HE0 := Lib.hid e0
  have HE1 := Lib.hid e1
  have HE2 := Lib.hid e2
  clear hal hO3 hW3 hO d0 d1 d2 e0 e1 e2 HU1
  go_loopw [6] (fun i wr => ∃ (k : Nat) (va : Option Addr) (vc : Nat), k ≤ n ∧ i = .int .i64 k ∧ negFit (l.take k) = true ∧ OutC wr (O + 1) O Ko false (negL (l.take k)) k va vc ∧ UpRow (O + 1) O W3 wr) (fun i _ => n - (intOf i).toNat)
  case atStart => exact ⟨0, none, 0, by omega, rfl, by simp [negFit], HO3.out, UpRow.refl _ _ _⟩
  case round =>
    rename World => wr
    obtain ⟨k, va, vc, hk, rfl, hfit, hOut, hRow⟩ := hrel
    have hU := UpRow.up HU3.out (by omega : w.heap.size ≤ O) (by omega) hRow
    obtain ⟨o0, o1, o2, of, ol⟩ := hOut.cells
    have HOut := Lib.hid hOut
    have HRow := Lib.hid hRow
    have HFK := Lib.hid hfit
    have c0 := (HRow.out.cell _ 0 (by omega : w.heap.size < O + 1) (by omega)).trans HE0.out
    have c1 := (HRow.out.cell _ 1 (by omega : w.heap.size < O + 1) (by omega)).trans HE1.out
    have c2 := (HRow.out.cell _ 2 (by omega : w.heap.size < O + 1) (by omega)).trans HE2.out
    have q9 : w.heap.size < wr.heap.size := by omega
    clear hOut hRow hfit
    by_cases hlt : k < n
    · have hlt2 : (k : Int) < (n : Int) := by omega
      have hk0 : (0 : Int) ≤ (k : Int) := by omega
      obtain ⟨bl, off, s, y, rfl, p1, p2, p3, p4⟩ := HV.out.elem hU k (by rw [HN.out]; exact hlt) HN.out rfl
      obtain ⟨b0, b1⟩ : In64 y := by
        have := HL.out k (by rw [HN.out]; exact hlt)
        rw [p2] at this; exact this
      have htk := take_snoc (by rw [HN.out]; exact hlt) p2
      have HT := Lib.hid htk
      have HMEM : Hid ((s, y) ∈ l) := Lib.hid (by
        have h9 : k < l.length := by rw [HN.out]; exact hlt
        rw [List.getD_eq_getElem?_getD, List.getElem?_eq_getElem h9] at p2
        exact p2 ▸ List.getElem_mem h9)
      have q5 : bl < wr.heap.size := by have := hU.size; omega
      have q6 : O < wr.heap.size := ol
      have HUP := Lib.hid hU
      clear p2 htk hU
      by_cases hmin : y = -9223372036854775808
      · subst hmin
        have HG : Hid (r = ([], 3)) := Lib.hid (by
          rw [← HR.out]
          rw [if_neg]
          unfold negFit
          rw [List.all_eq_true]
          exact fun h => by have := h _ HMEM.out; simp at this)
        go_wp2
        go_ret2
        exact ⟨⟨.slice none 0 0, by rw [HG.out]; rfl, by rw [HG.out]; exact cons_nil _⟩, HUP.out⟩
      · have hm1 : (y == -9223372036854775808) = false := by simpa using hmin
        obtain ⟨c, hc⟩ : ∃ c, -y = c := ⟨_, rfl⟩
        have hc0 : -9223372036854775808 ≤ c := by omega
        have hc1 : c ≤ 9223372036854775807 := by omega
        have hwc : IntKind.i64.wrap c = c := by rw [IntKind.wrap_i64]; omega
        have HF2 : Hid (negFit (l.take (k + 1)) = true) := Lib.hid (by
          rw [HT.out, negFit_snoc, HFK.out]; simp; omega)
        have HO2 : Hid (negL (l.take (k + 1)) = negL (l.take k) ++ [(s, c)]) := Lib.hid (by
          rw [HT.out, negL_snoc, hc])
        have hkm : (k : Int) ≤ 1000 := by omega
        have HKEY := Lib.hid (HOut.out.key s c)
        clear hmin
        go_wp2_with fail
        have HSL := Lib.hid (SlAt.up (mono_sl wr s c) ((Up.refl _).drew))
        go_region_law (refine wp_append_sl _ _ _ 22 rfl (O + 1) 56 i0 _ 2 24 Tryd.underlying22 hi0 hz0 hz1 hz2 rfl (by decide) (.slice va k vc) k _ rfl (HOut.out.2.2.1.alloc _).drew (.slice (some ⟨wr.heap.size, 0, none⟩) 1 1) 1 _ rfl HSL.out (mono_one s c) (by unfold maxLen; omega) (by omega) (by have := HOut.out.2.2.2.2; simp; omega) ?_; intro v1 w1 hown1 hg1 hat1 hnil1; obtain ⟨vb, vd, rfl⟩ := own_slice hown1; obtain ⟨d2, d3, HD2, HD3, HD4⟩ := HKEY.out w1 (undrew hg1); have HO1 := Lib.hid hown1; clear hown1 hg1 hat1 hnil1)
        all_goals
          obtain ⟨hf1, hf2⟩ := HOut.out.done s c HD2.out HD3.out HD4.out vb vd HO1.out
          go_wp2
          go_roundw
          case rel => exact ⟨k + 1, vb, vd, by omega, by go_num, HF2.out, by rw [HO2.out]; exact hf1, HRow.out.trans hf2⟩
          case measure => simp [intOf]; omega
    · have hlt2 : (n : Int) ≤ (k : Int) := by omega
      have hkn : k = n := by omega
      subst hkn
      have HTA : Hid (l.take k = l) := Lib.hid (List.take_of_length_le (by rw [HN.out]; omega))
      have HUW := Lib.hid hU
      have HFL : Hid (negFit l = true) := Lib.hid (by have := HFK.out; rw [HTA.out] at this; exact this)
      replace HR := Lib.hid ((if_pos HFL.out).symm.trans HR.out)
      have HLP : Hid (Part wr (.slice va k vc) (negL l)) := Lib.hid (by
        have := HOut.out
        rw [HTA.out] at this
        exact this.part (by omega) (negL_rng HL.out.mem HFL.out))
      have HK9 : Hid (In64 Ko) := Lib.hid ⟨g0, g1⟩
      clear hU HFK
      cases b
      · have HG : Hid (r = ([(Ko, negL l, false)], 0)) := Lib.hid (by rw [← HR.out, ← HKO.out]; rfl)
        go_wp2
        go_ret2
        exact ⟨⟨.slice (some ⟨wr.heap.size, 0, none⟩) 1 1, by rw [HG.out]; first | rfl | simp, by
          rw [HG.out]
          exact cons_one (e := false) 26 HLP.out HK9.out⟩, HUW.out.alloc _⟩
      · by_cases hmin : K = -9223372036854775808
        · have HG : Hid (r = ([], 3)) := Lib.hid (by rw [← HR.out]; simp [hmin])
          subst hmin
          go_wp2
          go_ret2
          exact ⟨⟨.slice none 0 0, by rw [HG.out]; rfl, by rw [HG.out]; exact cons_nil _⟩, HUW.out⟩
        · have hmn : (K == -9223372036854775808) = false := by simpa using hmin
          have HG : Hid (r = ([(K - 1, l, false), (Ko, negL l, false)], 0)) := Lib.hid (by rw [← HR.out, ← HKO.out]; simp [hmin])
          obtain ⟨K1, hK1⟩ : ∃ x, K - 1 = x := ⟨_, rfl⟩
          have HK8 : Hid (In64 K1) := Lib.hid ⟨by omega, by omega⟩
          obtain ⟨z0, z1⟩ := HK8.out
          rw [hK1] at HG
          clear hmin HR
          go_wp2
          obtain ⟨O2, hO2⟩ : ∃ O, wr.heap.size = O := ⟨_, rfl⟩
          have hO4 := OutC.new wr K1 false
          have hal : Up wr (wr.alloc (.cells #[.int .i64 K1, .slice none 0 0, .bool false] 26)) := (Up.refl wr).alloc _
          obtain ⟨W5, hW5⟩ : ∃ W, wr.alloc (.cells #[.int .i64 K1, .slice none 0 0, .bool false] 26) = W := ⟨_, rfl⟩
          rw [hO2] at hO4 q9 ol
          rw [hW5] at hO4 hal ⊢
          try rw [hO2]
          have HO4 := Lib.hid hO4
          have HAL := Lib.hid hal
          have HC1 := Lib.hid c1
          have HO5 := Lib.hid (And.intro o0 (And.intro o1 o2))
          have HS5 := Lib.hid hO2
          clear hO4 hW5 hal hO2 c0 c1 c2 o0 o1 o2 of
          go_loopw [8] (fun i w2 => ∃ (j : Nat) (va : Option Addr) (vc : Nat), j ≤ k ∧ i = .int .i64 j ∧ OutC w2 (O2 + 1) O2 K1 false (l.take j) j va vc ∧ UpRow (O2 + 1) O2 W5 w2) (fun i _ => k - (intOf i).toNat)
          case atStart => exact ⟨0, none, 0, by omega, rfl, HO4.out, UpRow.refl _ _ _⟩
          case round =>
            rename World => w2
            obtain ⟨j, va2, vc2, hj, rfl, hOut, hRow⟩ := hrel
            have hU2 := UpRow.up HAL.out (by rw [HS5.out]; exact Nat.le_refl _) (by omega) hRow
            have HU2 := Lib.hid hU2
            obtain ⟨o0, o1, o2, of, ol2⟩ := hOut.cells
            have HOut2 := Lib.hid hOut
            have HRow2 := Lib.hid hRow
            have c1 := (hU2.cell _ _ (by rw [HS5.out]; exact q9)).trans HC1.out
            have HUA := Lib.hid (HUW.out.trans hU2)
            have q8 : w.heap.size < w2.heap.size := by omega
            clear hOut hRow hU2
            by_cases hlt : j < k
            · have hlt2 : (j : Int) < (k : Int) := by omega
              have hk0 : (0 : Int) ≤ (j : Int) := by omega
              obtain ⟨bl, off, s, y, rfl, p1, p2, p3, p4⟩ := HV.out.elem HUA.out j (by rw [HN.out]; exact hlt) HN.out rfl
              have htk := take_snoc (by rw [HN.out]; exact hlt) p2
              have HT := Lib.hid htk
              have q5 : bl < w2.heap.size := by have := HUA.out.size; omega
              clear p2 htk
              have hkm : (j : Int) ≤ 1000 := by omega
              have HKEY := Lib.hid (HOut2.out.key s y)
              go_wp2_with fail
              have HSL := Lib.hid (SlAt.up (mono_sl w2 s y) ((Up.refl _).drew))
              go_region_law (refine wp_append_sl _ _ _ 22 rfl (O2 + 1) 56 i0 _ 2 24 Tryd.underlying22 hi0 hz0 hz1 hz2 rfl (by decide) (.slice va2 j vc2) j _ rfl (HOut2.out.2.2.1.alloc _).drew (.slice (some ⟨w2.heap.size, 0, none⟩) 1 1) 1 _ rfl HSL.out (mono_one s y) (by unfold maxLen; omega) (by omega) (by have := HOut2.out.2.2.2.2; simp; omega) ?_; intro v1 w1 hown1 hg1 hat1 hnil1; obtain ⟨vb, vd, rfl⟩ := own_slice hown1; obtain ⟨d2, d3, HD2, HD3, HD4⟩ := HKEY.out w1 (undrew hg1); have HO1 := Lib.hid hown1; clear hown1 hg1 hat1 hnil1)
              all_goals
                obtain ⟨hf1, hf2⟩ := HOut2.out.done s y HD2.out HD3.out HD4.out vb vd HO1.out
                go_wp2
                go_roundw
                case rel => exact ⟨j + 1, vb, vd, by omega, by go_num, by rw [HT.out]; exact hf1, HRow2.out.trans hf2⟩
                case measure => simp [intOf]; omega
            · have hlt2 : (k : Int) ≤ (j : Int) := by omega
              have hkn : j = k := by omega
              subst hkn
              have HPM : Hid (Part w2 (.slice va2 j vc2) l) := Lib.hid (by
                have := HOut2.out
                rw [HTA.out] at this
                exact this.part (by omega) HL.out)
              have HPL := Lib.hid (HLP.out.up HU2.out)
              have m0 := (HU2.out.cell O 0 (by rw [HS5.out]; exact ol)).trans HO5.out.1
              have m1 := (HU2.out.cell O 1 (by rw [HS5.out]; exact ol)).trans HO5.out.2.1
              have m2 := (HU2.out.cell O 2 (by rw [HS5.out]; exact ol)).trans HO5.out.2.2
              have mz : O < w2.heap.size := by omega
              go_wp2
              go_ret2
              refine ⟨⟨.slice (some ⟨w2.heap.size, 0, none⟩) 2 2, by rw [HG.out]; first | rfl | simp, ?_⟩, HUA.out.alloc _⟩
              rw [HG.out]
              exact cons_two (e := false) (e' := false) 26 HPM.out HK8.out HPL.out HK9.out
end Go.Proofs.YtahlecmlhdikjaaDoor
