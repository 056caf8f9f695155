/-
  Eval of the program's side: the walk.
-/
import Derived.Test.YtpclbgaaoednnaaDoorLinE
namespace Go.Proofs.YtpclbgaaoednnaaDoor
set_option linter.unusedSimpArgs false
open Go.ChangeShapes Go.WideShapes Go.ChangeAt Go.RowKit
set_option linter.unusedVariables false

theorem size_drewN (w : World) (n : Nat) : (w.drewN n).heap.size = w.heap.size := rfl

set_option maxHeartbeats 4000000 in
theorem lin_Eval (K : Int) (v ev : Value) (l env : List Mono) (w : World) (hv : MonosAt w v l) (he : MonosAt w ev env) (hK : In64 K) (hl : Rng l) (hen : Rng env) (hlen : l.length ≤ 1000) :
    Calls Tryd.prog 10 #[.agg #[.int .i64 K, v], ev] w fun e w' => e = .returned (.tuple #[.int .i64 (evalF K l env).1, .int .i64 (evalF K l env).2]) ∧ Up w w' := by
  have hmaxe := he.max
  obtain ⟨a, cap, rfl⟩ := hv.slice
  obtain ⟨a', cap', rfl⟩ := he.slice
  obtain ⟨n, hn⟩ : ∃ n, l.length = n := ⟨_, rfl⟩
  obtain ⟨n', hn'⟩ : ∃ n, env.length = n := ⟨_, rfl⟩
  rw [hn] at hv hlen ⊢
  rw [hn'] at he hmaxe ⊢
  have hnI : (n : Int) ≤ 1000 := by omega
  have HV := Lib.hid hv
  have HE := Lib.hid he
  have HN := Lib.hid hn
  have HN' := Lib.hid hn'
  have HK := Lib.hid hK
  have HL := Lib.hid hl
  have HEN := Lib.hid hen
  obtain ⟨q, hq⟩ : ∃ q, okL l = q := ⟨_, rfl⟩
  have HQ := Lib.hid hq
  have HVA : Hid (∀ (K : Int) (w : World) (hv : MonosAt w (.slice a n cap) l), Calls Tryd.prog 6 #[.agg #[.int .i64 K, .slice a n cap]] w fun e w' => e = .returned (.int .i64 (errOf q)) ∧ Up w w') := Lib.hid fun K w hv => by
    have := lin_Validate K (.slice a n cap) l w hv
    rw [hq] at this
    exact this
  have HR : Hid (evalF K l env = if q then evalR (sumE env l K) else (0, 1)) := Lib.hid (by unfold evalF; rw [hq])
  obtain ⟨r, hr⟩ : ∃ r, evalF K l env = r := ⟨_, rfl⟩
  rw [hr] at HR ⊢
  clear hv he hn hn' hK hl hen hq hr
  obtain ⟨k0, k1⟩ := HK.out
  go_enter Tryd.func10, Tryd.ntmps10
  go_wp2_with fail
  refine (HVA.out _ _ (HV.out.up ((Up.refl w).alloc _))).mono ?_
  rintro e x1 ⟨rfl, hx1⟩
  cases q
  · rw [show errOf false = 1 from rfl]
    go_wp2
    go_ret2
    have := HR.out
    exact ⟨ret_ii (by rw [this]; rfl) (by rw [this]; rfl), ((Up.refl w).alloc _).trans hx1⟩
  · rw [show errOf true = 0 from rfl]
    have hs := hx1.size
    rw [size_alloc] at hs
    have b0 : x1.cell? ⟨w.heap.size, 0, none⟩ = some (.int .i64 K) := (hx1.cell _ _ (by rw [size_alloc]; omega)).trans (by go_simp)
    have b1 : x1.cell? ⟨w.heap.size, 1, none⟩ = some (.slice a n cap) := (hx1.cell _ _ (by rw [size_alloc]; omega)).trans (by go_simp)
    have HU1 := Lib.hid (((Up.refl w).alloc (.cells #[.int .i64 K, .slice a n cap] 24)).trans hx1)
    clear hx1
    have q0 : w.heap.size < x1.heap.size := by omega
    have q1 : w.heap.size < x1.heap.size + 1 := by omega
    have q2 : x1.heap.size < x1.heap.size + 1 := by omega
    obtain ⟨m1, m2, m3⟩ := mag_range K HK.out
    obtain ⟨mk, hmk⟩ : ∃ m, mag K = m := ⟨_, rfl⟩
    have HM : Hid (∀ w, Calls Tryd.prog 18 #[.int .i64 K] w fun e w' => e = .returned (.int .u64 mk) ∧ Up w w') := Lib.hid fun w => by
      rw [← hmk]
      exact (lin_magnitude K k0 k1 w).mono fun e w' ⟨h1, h2⟩ => ⟨h1, h2 ▸ Up.refl _⟩
    obtain ⟨neg, hneg⟩ : ∃ g, decide (K < 0) = g := ⟨_, rfl⟩
    have HKS : Hid (K = if neg then (0 : Int) - (0 * 18446744073709551616 + mk) else 0 + (0 * 18446744073709551616 + mk)) := Lib.hid (by
      rw [← hneg, ← hmk]; unfold mag
      by_cases h : K < 0 <;> simp [h])
    rw [hmk] at m1 m2
    clear hmk
    go_wp2_with fail
    refine wp_region_ext_tail 6 (by kernel_rfl) (by kernel_rfl) ?_
    simp only [List.take_succ_cons, List.take_zero, List.drop_succ_cons, List.drop_zero]
    repeat (go_big_quiet_step ((go_at_call 18; exact Calls.ext_of (HM.out _))))
    refine wpQuiet_nil ?_
    intro x2 hx2
    have hw0 := (WAt.zero x1 55).up hx2
    have HU2 := Lib.hid ((HU1.out.alloc (.cells #[.int .u64 0, .int .u64 0, .int .u64 0] 55)).trans hx2)
    have hs2 := hx2.size
    rw [size_alloc] at hs2
    have b1' : x2.cell? ⟨w.heap.size, 1, none⟩ = some (.slice a n cap) := (hx2.cell _ _ (by rw [size_alloc]; omega)).trans ((((Up.refl x1).alloc _).cell _ _ q0).trans b1)
    clear hx2 b0 b1
    try rw [hneg]
    have HW0 := Lib.hid hw0
    clear hw0
    obtain ⟨S, hS⟩ : ∃ S, x1.heap.size = S := ⟨_, rfl⟩
    rw [hS] at q0 q1 q2 hs2 HW0
    try rw [hS]
    clear hS
    go_wp2_with fail
    refine (wide_add neg S 0 mk (by omega) (by omega) (by omega) (by omega) _ _ _ HW0.out HKS.out).mono ?_
    rintro e x3 ⟨rfl, hw3, hb3⟩
    have hs3 := hb3.size
    have HW3 := Lib.hid hw3
    have b3 : x3.cell? ⟨w.heap.size, 1, none⟩ = some (.slice a n cap) := (hb3.cell _ _ (by omega) (by omega)).trans b1'
    have HU3 := Lib.hid (UpBut.up HU2.out (by omega) hb3)
    have hq3 : w.heap.size < x3.heap.size := by omega
    have hq4 : S < x3.heap.size := by omega
    clear hw3 hb3 b1' HW0 HKS HM
    go_wp2
    have HRR : Hid (r = evalR (sumE env l K)) := Lib.hid (by rw [HR.out]; rfl)
    clear HR HVA HU1 HU2
    go_loopw [28] (fun i wr => ∃ (k : Nat) (acc : Int), k ≤ n ∧ i = .int .i64 k ∧ Up w wr ∧ WAt wr S acc ∧ (-9223372036854775808 - (k : Int) * 85070591730234615865843651857942052864 ≤ acc ∧ acc ≤ 9223372036854775808 + (k : Int) * 85070591730234615865843651857942052864) ∧ sumE env (l.drop k) acc = sumE env l K) (fun i _ => n - (intOf i).toNat)
    case atStart => exact ⟨0, K, by omega, rfl, HU3.out, HW3.out, by omega, by rw [List.drop_zero]⟩
    case round =>
      rename_i wr
      obtain ⟨k, acc, hk, rfl, hU, hW, hB, hP⟩ := hrel
      have HP := Lib.hid hP
      have HB := Lib.hid hB
      have HW := Lib.hid hW
      have hsz := hU.size
      have hSl := hW.lt
      clear hP hB hW
      by_cases hlt : k < n
      · have hlt2 : (k : Int) < (n : Int) := by omega
        have hk0 : (0 : Int) ≤ (k : Int) := by omega
        obtain ⟨bl, off, s, b, rfl, p1, p2, p3, p4⟩ := HV.out.elem hU k (by rw [HN.out]; exact hlt) HN.out rfl
        have hrb : In64 b := by
          have := HL.out k (by rw [HN.out]; exact hlt)
          rw [p2] at this; exact this
        have hdrop := drop_mono (by rw [HN.out]; exact hlt) p2
        have HP2 : Hid ((match lookE env s.toList with | none => none | some v => sumE env (l.drop (k + 1)) (acc + b * v)) = sumE env l K) := Lib.hid (by
          rw [← HP.out, hdrop]; rfl)
        clear HP hdrop p2
        have q5 : bl < wr.heap.size := by omega
        have q6 : wr.heap.size < wr.heap.size + 1 := by omega
        obtain ⟨wa, hwa⟩ : ∃ wa, wr.alloc (.cells #[.string s, .int .i64 b] 31) = wa := ⟨_, rfl⟩
        have hUa : Up wr wa := hwa ▸ (Up.refl wr).alloc _
        have hsa : wa.heap.size = wr.heap.size + 1 := by rw [← hwa, size_alloc]
        have d0 : wa.cell? ⟨wr.heap.size, 0, none⟩ = some (.string s) := by rw [← hwa]; exact cell_of_row _ _ _ _ _ _ (heap_alloc_new wr _)
        have d1 : wa.cell? ⟨wr.heap.size, 1, none⟩ = some (.int .i64 b) := by rw [← hwa]; exact cell_of_row _ _ _ _ _ _ (heap_alloc_new wr _)
        obtain ⟨M, hM⟩ : ∃ M, wr.heap.size = M := ⟨_, rfl⟩
        rw [hM] at d0 d1 hsa q5 q6 hSl hsz
        have HM := Lib.hid hM
        have HWA := Lib.hid hwa
        have HUA := Lib.hid hUa
        have HUW := Lib.hid (hU.trans hUa)
        have HI : Hid (∀ (r : Int), idxFrom s.toList env 0 = r → Calls Tryd.prog 25 #[.slice a' n' cap', .func (.func 26) #[] #[.pointer (some ⟨M, 0, none⟩)]] wa fun e w' => e = .returned (.int .i64 r) ∧ Up wa w') := Lib.hid (fun r hr => by
          have := slices_IndexFunc s M _ _ wa (HE.out.up HUW.out) (by omega) d0
          rw [hr] at this
          exact this)
        clear hwa hUa
        rcases idx_look s.toList env 0 with ⟨h1, h2⟩ | ⟨i, h1, h2, h3⟩
        · have HIX := Lib.hid h1
          have HRE : Hid (r = (0, 9)) := Lib.hid (by
            rw [HRR.out, ← HP2.out, h2]; rfl)
          clear h1 h2
          go_wp2_with fail
          try rw [HM.out]
          rw [HWA.out]
          refine (HI.out _ HIX.out).mono ?_
          rintro e x4 ⟨rfl, hx4⟩
          go_wp2
          go_ret2
          exact ⟨ret_ii (by rw [HRE.out]) (by rw [HRE.out]), HUW.out.trans hx4⟩
        · have HIX := Lib.hid h2
          rw [Nat.zero_add] at HIX
          have hin : i < n' := by rw [← HN'.out]; exact h1
          obtain ⟨bl', off', s', x', rfl, e1, e2, e3, e4⟩ := HE.out.elem HUW.out i h1 HN'.out rfl
          have hrx : In64 x' := by
            have := HEN.out i h1
            rw [e2] at this; exact this
          have HP3 : Hid (sumE env (l.drop (k + 1)) (acc + b * x') = sumE env l K) := Lib.hid (by
            rw [← HP2.out, h3, e2])
          clear h1 h2 h3 e2 HP2
          obtain ⟨b0, b1'⟩ := hrb
          obtain ⟨x0, x1'⟩ := hrx
          obtain ⟨mb, hmb⟩ : ∃ m, mag b = m := ⟨_, rfl⟩
          obtain ⟨mx, hmx⟩ : ∃ m, mag x' = m := ⟨_, rfl⟩
          have HMB : Hid (∀ w, Calls Tryd.prog 18 #[.int .i64 b] w fun e w' => e = .returned (.int .u64 mb) ∧ w' = w) := Lib.hid (hmb ▸ lin_magnitude b b0 b1')
          have HMX : Hid (∀ w, Calls Tryd.prog 18 #[.int .i64 x'] w fun e w' => e = .returned (.int .u64 mx) ∧ w' = w) := Lib.hid (hmx ▸ lin_magnitude x' x0 x1')
          obtain ⟨r1, r2, r3⟩ := mag_range b ⟨b0, b1'⟩
          obtain ⟨r4, r5, r6⟩ := mag_range x' ⟨x0, x1'⟩
          obtain ⟨r7, r8⟩ := mag_mul_le b x' ⟨b0, b1'⟩ ⟨x0, x1'⟩
          have hsm := sign_mul b x'
          have hml := mul_le64 b x' ⟨b0, b1'⟩ ⟨x0, x1'⟩
          rw [hmb] at r1 r2 r7 r8 hsm
          rw [hmx] at r4 r5 r7 r8 hsm
          obtain ⟨P, hP⟩ : ∃ P, mb * mx = P := ⟨_, rfl⟩
          obtain ⟨Hi, hHi⟩ : ∃ H, P / 18446744073709551616 = H := ⟨_, rfl⟩
          obtain ⟨Lo, hLo⟩ : ∃ L, P % 18446744073709551616 = L := ⟨_, rfl⟩
          have HPR : Hid (∀ w, Calls Tryd.prog 27 #[.int .u64 mb, .int .u64 mx] w fun e w' => e = .returned (.tuple #[.int .u64 Hi, .int .u64 Lo]) ∧ w' = w) := Lib.hid (fun w => by
            have := lin_product mb mx r1 r2 r4 r5 w
            rw [hP, hHi, hLo] at this
            exact this)
          rw [hP] at r7 r8 hsm
          obtain ⟨neg, hng⟩ : ∃ g, (decide (b < 0) != decide (x' < 0)) = g := ⟨_, rfl⟩
          rw [hng] at hsm
          obtain ⟨acc', hacc⟩ : ∃ t, acc + b * x' = t := ⟨_, rfl⟩
          obtain ⟨bx, hbx⟩ : ∃ t, b * x' = t := ⟨_, rfl⟩
          rw [hacc] at HP3
          rw [hbx] at hacc hsm hml
          have HAD : Hid (acc' = if neg then acc - (Hi * 18446744073709551616 + Lo) else acc + (Hi * 18446744073709551616 + Lo)) := Lib.hid (by
            rw [← hacc, ← hsm]
            cases neg
            · simp; omega
            · simp; omega)
          have hH0 : 0 ≤ Hi ∧ Hi < 18446744073709551616 ∧ 0 ≤ Lo ∧ Lo < 18446744073709551616 := by omega
          have HB2 : Hid (-9223372036854775808 - ((k + 1 : Nat) : Int) * 85070591730234615865843651857942052864 ≤ acc' ∧ acc' ≤ 9223372036854775808 + ((k + 1 : Nat) : Int) * 85070591730234615865843651857942052864) := Lib.hid (by
            have := HB.out
            omega)
          obtain ⟨z1, z2, z3, z4⟩ := hH0
          clear hacc hbx hsm hml r3 r6 r7 r8 hP hHi hLo hmb hmx HB
          have HNG := Lib.hid hng
          have hi0 : (0 : Int) ≤ (i : Int) := by omega
          have hi1 : ¬ (i : Int) < 0 := by omega
          have hi2 : (i : Int) < (n' : Int) := by omega
          have e1' : bl' < w.heap.size := e1
          have hws : w.heap.size < wa.heap.size := by omega
          have HE3 := Lib.hid e3
          have HE4 := Lib.hid e4
          clear e3 e4 e1
          go_wp2_with fail
          try rw [HM.out]
          rw [HWA.out]
          refine (HI.out _ HIX.out).mono ?_
          rintro e x4 ⟨rfl, hx4⟩
          have hs4 := hx4.size
          have c3 : x4.cell? ⟨bl', off' + i * 2 + 1, none⟩ = some (.int .i64 x') := (hx4.cell _ _ (by omega)).trans HE4.out
          have c1 : x4.cell? ⟨M, 1, none⟩ = some (.int .i64 b) := (hx4.cell _ _ (by omega)).trans d1
          have q8 : bl' < x4.heap.size := by omega
          have q9 : M < x4.heap.size := by omega
          have HU4 := Lib.hid (HUW.out.trans hx4)
          have HW4 := Lib.hid ((HW.out.up HUA.out).up hx4)
          clear hx4 d0 d1 HI HIX HW HUA
          go_wp2_with fail
          refine (HMB.out _).mono ?_
          rintro e x5 ⟨rfl, hx5⟩
          replace hx5 := hx5.symm
          subst hx5
          go_wp2_with fail
          refine (HMX.out _).mono ?_
          rintro e x5 ⟨rfl, hx5⟩
          replace hx5 := hx5.symm
          subst hx5
          go_wp2_with fail
          refine (HPR.out _).mono ?_
          rintro e x5 ⟨rfl, hx5⟩
          replace hx5 := hx5.symm
          subst hx5
          go_wp2_with fail
          rw [show (!(decide (b < 0) == decide (x' < 0))) = neg from HNG.out]
          refine (wide_add neg S Hi Lo z1 z2 z3 z4 _ _ _ HW4.out HAD.out).mono ?_
          rintro e x6 ⟨rfl, hw6, hb6⟩
          have HU6 := Lib.hid (UpBut.up HU4.out (by omega) hb6)
          have HW6 := Lib.hid hw6
          clear hw6 hb6
          go_wp2
          go_roundw
          case rel => exact ⟨k + 1, acc', by omega, by go_num, HU6.out, HW6.out, HB2.out, HP3.out⟩
          case measure => simp [intOf]; omega
      · have hlt2 : (n : Int) ≤ (k : Int) := by omega
        have HRE : Hid (r = evalR (some acc)) := Lib.hid (by
          rw [HRR.out, ← HP.out, List.drop_eq_nil_of_le (by rw [HN.out]; omega)]; rfl)
        have hB := HB.out
        clear HP HRR
        go_wp2_with fail
        refine (wide_narrow S acc _ HW.out (by omega) (by omega)).mono ?_
        rintro e x4 ⟨x, rfl, hx, hx4⟩
        have hxx := hx
        obtain ⟨f, hf⟩ : ∃ f, fitB acc = f := ⟨_, rfl⟩
        rw [hf] at hxx
        have HRF : Hid (r = if f then (acc, 0) else (0, 3)) := Lib.hid (by rw [HRE.out, ← hf]; rfl)
        rw [hf]
        clear hx
        cases f
        · go_wp2
          go_ret2
          exact ⟨ret_ii (by rw [HRF.out]; rfl) (by rw [HRF.out]; rfl), hU.trans hx4⟩
        · obtain rfl := hxx rfl
          go_wp2
          go_ret2
          exact ⟨ret_ii (by rw [HRF.out]; rfl) (by rw [HRF.out]; rfl), hU.trans hx4⟩
end Go.Proofs.YtpclbgaaoednnaaDoor

