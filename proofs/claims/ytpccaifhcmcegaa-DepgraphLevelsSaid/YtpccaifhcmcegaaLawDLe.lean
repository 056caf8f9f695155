/-
  The walk of DepgraphLevels.
-/
import Derived.Test.YtpccaifhcmcegaaDgLh
namespace Go.Proofs.Ytpccaifhcmcegaa.depgraphLevels
set_option linter.unusedSimpArgs false
open Go.ChangeShapes Go.WideShapes Go.ChangeAt Go.RowKit
set_option linter.unusedVariables false
set_option maxRecDepth 100000

set_option maxHeartbeats 16000000 in
theorem walk (w : World) {v : Value} {x : Nat × Pg} (hv : ProgAt x.1 w v x.2) : Calls Try.prog 5 #[v] w fun e w' => e = .returned (.bool true) ∧ Below w.heap.size w w' := by
  obtain ⟨N, p⟩ := x
  dsimp only at hv
  have HPX := Lib.hid (fun y (hy : Up w y) => hv.up hy)
  have HSMA := Lib.hid (fun y (hy : Up w y) => law_Small N p v y (hv.up hy))
  obtain ⟨v0, v1, v2, v3, v4, rfl, -⟩ := id hv
  have HU0 := Lib.hid ((Up.refl w).alloc (.cells #[v0, v1, v2, v3, v4] 27))
  have HB0 := Lib.hid (BoxC.new w 27 #[v0, v1, v2, v3, v4])
  have HLP := Lib.hid (fun y (hy : Up (w.alloc (.cells #[v0, v1, v2, v3, v4] 27)) y) => run_cs (P := Try.prog) Try.underlying27 rfl prog_info (cs := #[v0, v1, v2, v3, v4]) rfl (HB0.out.up hy).range)
  have HEX := Lib.hid (fun y => law_examples y)
  have HL0 := Lib.hid (HLP.out _ (Up.refl _))
  clear hv
  go_enter Try.func5, Try.ntmps5
  go_wp2_with (refine st_load HL0.out (by rfl) ?_)
  refine (HSMA.out _ HU0.out).mono ?_
  rintro e' W1 ⟨b, rfl, hy, hsp⟩
  have HV1 := Lib.hid hy
  have HSP := Lib.hid hsp
  clear hy hsp
  cases b
  · go_wp2_with (go_at_call 10; (with_reducible refine (HEX.out W1).mono ?_); rintro e' W2 ⟨rfl, hy⟩; have HV2 := Lib.hid hy; clear hy)
    go_ret
    exact ⟨rfl, (HU0.out.trans HV1.out).trans HV2.out⟩
  · have hsm := HSP.out rfl
    obtain ⟨Lv, hLv⟩ : ∃ q, lvF p.defs = q := ⟨_, rfl⟩
    obtain ⟨n, hn⟩ : ∃ q, Lv.length = q := ⟨_, rfl⟩
    have HN := Lib.hid hn
    have HL1 := Lib.hid (fun y (hy : Up w y) => p_Levels N p _ y (HPX.out _ hy) (small_tot hsm) hsm.defs)
    have HL2 := Lib.hid (fun y (hy : Up w y) => r20_Levels N p _ y (HPX.out _ hy) (small_tot hsm) hsm.defs)
    rw [hLv] at HL1 HL2
    clear hsm hLv hn
    have HBP := Lib.hid (HB0.out.up HV1.out)
    obtain ⟨a0, a1, a2, a3, a4⟩ := HBP.out.five
    have asz := HBP.out.lt
    go_upto_region 3 with (fail)
    refine wp_region_mk_all (fun _ _ v x => LsAt 1 24 rowR x v Lv) (by kernel_rfl) (by kernel_rfl) ?_
    try simp only [Act.put]
    iterate 1 (refine wpMk_quiet anti_post (by kernel_rfl) ?_; go_big_quiet_step (fail); refine wpQuiet_nil ?_)
    refine wpMk_enter anti_post 18 #[.agg #[v0, v1, v2, v3, v4]] (fun v x y h hu => h.up rowR_up hu) (by kernel_rfl) (fun x => by go_simp) (fun x hx => (HL1.out x ((HU0.out.trans HV1.out).trans hx)).mono fun e w' ⟨u, h1, h2, h3⟩ => ⟨_, h1, h2, h3⟩) ?_
    rintro u1 ⟨y1, hy1, hu1⟩
    simp only [Act.put, List.setIfInBounds_toArray, List.set_cons_succ, List.set_cons_zero]
    iterate 1 (refine wpMk_quiet anti_post (by kernel_rfl) ?_; go_big_quiet_step (fail); refine wpQuiet_nil ?_)
    refine wpMk_enter anti_post 19 #[.agg #[v0, v1, v2, v3, v4]] (fun v x y h hu => h.up rowR_up hu) (by kernel_rfl) (fun x => by go_simp) (fun x hx => (HL2.out x ((HU0.out.trans HV1.out).trans hx)).mono fun e w' ⟨u, h1, h2, h3⟩ => ⟨_, h1, h2, h3⟩) ?_
    rintro u2 ⟨y2, hy2, hu2⟩
    simp only [Act.put, List.setIfInBounds_toArray, List.set_cons_succ, List.set_cons_zero]
    obtain ⟨ga, gc, rfl, -⟩ := hu1.shape
    obtain ⟨ha, hc, rfl, -⟩ := hu2.shape
    rw [HN.out]
    iterate 2 (refine wpMk_quiet anti_post (by kernel_rfl) ?_; go_big_quiet_step (fail); refine wpQuiet_nil ?_)
    refine wpMk_nil ?_
    rintro W2 hW2 ⟨⟨-, h1⟩, h2⟩
    have hnI : (n : Int) ≤ 140737488351232 := by have := h1.bytes; rw [HN.out] at this; omega
    have HV2 := Lib.hid (HV1.out.trans hW2)
    have HG := Lib.hid h1
    have HH := Lib.hid h2
    clear hW2 h1 h2 hu1 hu2 hy1 hy2 a0 a1 a2 a3 a4 asz
    have hnn : ((n : Int) != n) = false := by simp
    go_wp2
    go_loopw [5] (fun iv y => ∃ i : Nat, iv = .int .i64 i ∧ i ≤ n ∧ Up W2 y) (fun iv _ => n - (intOf iv).toNat)
    case atStart => exact ⟨0, rfl, Nat.zero_le _, Up.refl _⟩
    case round =>
      rename World => y
      obtain ⟨i, rfl, hi, hup⟩ := hrel
      have HUY := Lib.hid hup
      clear hup
      by_cases hlt : i < n
      · have hltI : (i : Int) < n := by omega
        have hi1 : i < Lv.length := by rw [HN.out]; exact hlt
        obtain ⟨g1, o1, f1, rfl, hg1, hf1, hr1⟩ := HG.out.elem i hi1
        obtain ⟨g2, o2, f2, rfl, hg2, hf2, hr2⟩ := HH.out.elem i hi1
        replace hr1 : LsAt 1 16 strR W2 (f1 0) Lv[i] := hr1
        replace hr2 : LsAt 1 16 strR W2 (f2 0) Lv[i] := hr2
        obtain ⟨xa, xc, e1, -⟩ := hr1.shape
        obtain ⟨ya, yc, e2, -⟩ := hr2.shape
        have c1 := (HUY.out.cell _ _ hg1).trans (hf1 0 (by decide))
        have c2 := (HUY.out.cell _ _ hg2).trans (hf2 0 (by decide))
        rw [e1] at c1 hr1
        rw [e2] at c2 hr2
        obtain ⟨l, hl⟩ : ∃ l, Lv[i] = l := ⟨_, rfl⟩
        rw [hl] at hr1 hr2 c1 c2
        obtain ⟨ln, hln⟩ : ∃ q, l.length = q := ⟨_, rfl⟩
        rw [hln] at hr1 hr2 c1 c2
        have c1' : y.cell? ⟨g1, o1 + i, none⟩ = some (.slice xa ln xc) := by simpa using c1
        have c2' : y.cell? ⟨g2, o2 + i, none⟩ = some (.slice ya ln yc) := by simpa using c2
        have hg1' := Nat.lt_of_lt_of_le hg1 HUY.out.size
        have hg2' := Nat.lt_of_lt_of_le hg2 HUY.out.size
        have HST := Lib.hid (fun x (hx : Up y x) => base_Strings (.slice xa ln xc) (.slice ya ln yc) l l x (hr1.up strR_up (HUY.out.trans hx)) (hr2.up strR_up (HUY.out.trans hx)) true (decide_eq_true rfl))
        clear hr1 hr2 hl hln hf1 hf2 hg1 hg2 e1 e2 c1 c2 hi1
        go_upto_region 9 with (fail)
        refine wp_region_mk_all (fun _ _ v x => v = .bool true) (by kernel_rfl) (by kernel_rfl) ?_
        try simp only [Act.put]
        iterate 8 (refine wpMk_quiet anti_post (by kernel_rfl) ?_; go_big_quiet_step (fail); refine wpQuiet_nil ?_)
        refine wpMk_enter anti_post 11 #[.slice xa ln xc, .slice ya ln yc] (fun v x y h hu => h) (by kernel_rfl) (fun x => by go_simp) (fun x hx => (HST.out x hx).mono fun e w' ⟨h1, h2⟩ => ⟨_, h1, h2, rfl⟩) ?_
        rintro u3 ⟨y3, -, rfl⟩
        simp only [Act.put, List.setIfInBounds_toArray, List.set_cons_succ, List.set_cons_zero]
        iterate 1 (refine wpMk_quiet anti_post (by kernel_rfl) ?_; go_big_quiet_step (fail); refine wpQuiet_nil ?_)
        refine wpMk_nil ?_
        rintro W5 hW5 -
        have HV5 := Lib.hid (HUY.out.trans hW5)
        clear hW5 c1' c2' hg1' hg2'
        go_wp2
        go_roundw
        case rel => exact ⟨i + 1, by go_num, by omega, HV5.out⟩
        case measure => simp [intOf]; omega
      · obtain rfl : n = i := by omega
        go_wp2_with (go_at_call 10; (with_reducible refine (HEX.out y).mono ?_); rintro e' W6 ⟨rfl, hy⟩; have HV6 := Lib.hid hy; clear hy)
        go_ret
        exact ⟨rfl, ((HU0.out.trans HV2.out).trans HUY.out).trans HV6.out⟩
end Go.Proofs.Ytpccaifhcmcegaa.depgraphLevels
