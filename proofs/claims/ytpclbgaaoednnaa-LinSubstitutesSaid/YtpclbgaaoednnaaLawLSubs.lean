/-
  LinSubstitutes: the walk of the law.
-/
import Derived.Test.YtpclbgaaoednnaaLinRt
import Derived.Test.YtpclbgaaoednnaaLawLScale
namespace Go.Proofs.Ytpclbgaaoednnaa.linSubstitutes
open Go.ChangeShapes Go.WideShapes Go.ChangeAt Go.RowKit
open Go.Proofs.Ytpclbgaaoednnaa.linScales (eqForm_self)
set_option linter.unusedVariables false

set_option maxHeartbeats 4000000 in
theorem walk (W : World) {v v' : Value} {x x' : Int × List Mono} {s : ByteArray} (w0 : LinArg W v x.1 x.2) (ws : s.size ≤ maxLen) (w1 : LinArg W v' x'.1 x'.2) :
    Calls Try.prog 9 #[v, .string s, v'] W fun e w' => e = .returned (.bool true) ∧ Up W w' := by
  obtain ⟨K, l⟩ := x
  obtain ⟨K', l'⟩ := x'
  obtain ⟨lv, rfl, ⟨hm, hrg, hsz, hca⟩, hK⟩ := w0
  obtain ⟨lv', rfl, ⟨hm', hrg', hsz', hcb⟩, hK'⟩ := w1
  dsimp only at hm hrg hsz hK hm' hrg' hsz' hK'
  have HV := Lib.hid hm
  have HV' := Lib.hid hm'
  obtain ⟨a, cap, rfl⟩ := hm.slice
  obtain ⟨a', cap', rfl⟩ := hm'.slice
  obtain ⟨n, hn⟩ : ∃ n, l.length = n := ⟨_, rfl⟩
  obtain ⟨n', hn'⟩ : ∃ n, l'.length = n := ⟨_, rfl⟩
  rw [hn] at HV hca ⊢
  rw [hn'] at HV' hcb ⊢
  obtain ⟨r, hr⟩ : ∃ r, substF K l s.toList K' l' = r := ⟨_, rfl⟩
  obtain ⟨q, hq⟩ : ∃ q, smallB l = q := ⟨_, rfl⟩
  obtain ⟨q', hq'⟩ : ∃ q, smallB l' = q := ⟨_, rfl⟩
  have HSM : Hid (∀ w, MonosAt w (.slice a n cap) l → Calls Try.prog 18 #[.agg #[.int .i64 K, .slice a n cap]] w fun e w' => e = .returned (.bool q) ∧ Up w w') := Lib.hid fun w h => by
    have := r05_Small K _ l w h
    rw [hq] at this; exact this
  have HSN : Hid (∀ w, MonosAt w (.slice a' n' cap') l' → Calls Try.prog 18 #[.agg #[.int .i64 K', .slice a' n' cap']] w fun e w' => e = .returned (.bool q') ∧ Up w w') := Lib.hid fun w h => by
    have := r05_Small K' _ l' w h
    rw [hq'] at this; exact this
  have HLEN : Hid (q = true → l.length ≤ 1000) := Lib.hid fun h => by
    rw [h] at hq
    unfold smallB at hq
    have := of_decide_eq_true (Bool.and_eq_true_iff.1 hq).1
    omega
  have HLEN' : Hid (q' = true → l'.length ≤ 1000) := Lib.hid fun h => by
    rw [h] at hq'
    unfold smallB at hq'
    have := of_decide_eq_true (Bool.and_eq_true_iff.1 hq').1
    omega
  have HSC : Hid (l.length ≤ 1000 → l'.length ≤ 1000 → ∀ w, MonosAt w (.slice a n cap) l → MonosAt w (.slice a' n' cap') l' → Calls Try.prog 31 #[.agg #[.int .i64 K, .slice a n cap], .string s, .agg #[.int .i64 K', .slice a' n' cap']] w fun e w' => LinErrF w e w' r ∧ Up w w') := Lib.hid fun h h' w hw hw' => by
    rw [← hr]; exact lin_Substitute K K' s _ _ l l' w ⟨hw, hrg, hca⟩ ⟨hw', hrg', hcb⟩ hK hK' h h'
  have HRC : Hid (l.length ≤ 1000 → l'.length ≤ 1000 → ∀ w, MonosAt w (.slice a n cap) l → MonosAt w (.slice a' n' cap') l' → Calls Try.prog 32 #[.agg #[.int .i64 K, .slice a n cap], .string s, .agg #[.int .i64 K', .slice a' n' cap']] w fun e w' => LinErr e w' r ∧ Up w w') := Lib.hid fun h h' w hw hw' => by
    rw [← hr, ← subst_eq s.toList K' l' hK (Rng.mem hrg)]; exact r05_Substitute K K' s _ _ l l' w ⟨hw, hrg, hca⟩ ⟨hw', hrg', hcb⟩ hK hK' h h'
  obtain ⟨rK, rl, re⟩ := r
  clear hm hrg hsz hK hr hq hn hm' hrg' hsz' hK' hq' hn' hca hcb
  go_enter Try.func9, Try.ntmps9
  go_wp2_with fail
  refine (HSM.out _ (HV.out.up (((Up.refl W).alloc _).alloc _))).mono ?_
  rintro e x1 ⟨rfl, hx1⟩
  have hs := hx1.size
  rw [size_alloc, size_alloc] at hs
  have a0 : x1.cell? ⟨W.heap.size, 0, none⟩ = some (.int .i64 K) := (hx1.cell _ _ (by rw [size_alloc, size_alloc]; omega)).trans (by go_simp)
  have a1 : x1.cell? ⟨W.heap.size, 1, none⟩ = some (.slice a n cap) := (hx1.cell _ _ (by rw [size_alloc, size_alloc]; omega)).trans (by go_simp)
  have b0 : x1.cell? ⟨W.heap.size + 1, 0, none⟩ = some (.int .i64 K') := (hx1.cell _ _ (by rw [size_alloc, size_alloc]; omega)).trans (by go_simp)
  have b1 : x1.cell? ⟨W.heap.size + 1, 1, none⟩ = some (.slice a' n' cap') := (hx1.cell _ _ (by rw [size_alloc, size_alloc]; omega)).trans (by go_simp)
  have HU1 := Lib.hid ((((Up.refl W).alloc (.cells #[.int .i64 K, .slice a n cap] 25)).alloc (.cells #[.int .i64 K', .slice a' n' cap'] 25)).trans hx1)
  clear hx1
  have q0 : W.heap.size < x1.heap.size := by omega
  have q1 : W.heap.size + 1 < x1.heap.size := by omega
  clear hs
  cases q
  · go_wp2_with fail
    refine (law05_alive _).mono ?_
    rintro e x2 ⟨rfl, hx2⟩
    go_wp2
    go_ret
    exact ⟨rfl, HU1.out.trans hx2⟩
  go_wp2_with fail
  refine (HSN.out _ (HV'.out.up HU1.out)).mono ?_
  rintro e x2 ⟨rfl, hx2⟩
  have a0' := (hx2.cell _ _ q0).trans a0
  have a1' := (hx2.cell _ _ q0).trans a1
  have b0' := (hx2.cell _ _ q1).trans b0
  have b1' := (hx2.cell _ _ q1).trans b1
  have HU2 := Lib.hid (HU1.out.trans hx2)
  have hs2 := hx2.size
  have p0 : W.heap.size < x2.heap.size := by omega
  have p1 : W.heap.size + 1 < x2.heap.size := by omega
  clear hx2 a0 a1 b0 b1 q0 q1 hs2 HU1
  cases q'
  · go_wp2_with fail
    refine (law05_alive _).mono ?_
    rintro e x3 ⟨rfl, hx3⟩
    go_wp2
    go_ret
    exact ⟨rfl, HU2.out.trans hx3⟩
  have HL := Lib.hid (HLEN.out (by trivial))
  have HL' := Lib.hid (HLEN'.out (by trivial))
  go_wp2_with fail
  refine (HSC.out HL.out HL'.out _ (HV.out.up HU2.out) (HV'.out.up HU2.out)).mono ?_
  rintro e x3 ⟨⟨v1, rfl, hv1, _⟩, hx3⟩
  dsimp only at hv1
  have HV1 := Lib.hid hv1
  obtain ⟨a1x, cap1, rfl⟩ := hv1.slice
  obtain ⟨n1, hn1⟩ : ∃ n, rl.length = n := ⟨_, rfl⟩
  have HN1 := Lib.hid hn1
  rw [hn1] at HV1
  try rw [hn1]
  have a0 := (hx3.cell _ _ p0).trans a0'
  have a1 := (hx3.cell _ _ p0).trans a1'
  have b0 := (hx3.cell _ _ p1).trans b0'
  have b1 := (hx3.cell _ _ p1).trans b1'
  have hs3 := hx3.size
  have q0 : W.heap.size < x3.heap.size := by omega
  have q1 : W.heap.size + 1 < x3.heap.size := by omega
  have HU3 := Lib.hid (HU2.out.trans hx3)
  clear hx3 a0' a1' b0' b1' p0 p1 hs3 hv1 hn1 HU2 HSC
  dsimp only
  go_wp2_with fail
  refine (HRC.out HL.out HL'.out _ (HV.out.up (HU3.out.alloc _)) (HV'.out.up (HU3.out.alloc _))).mono ?_
  rintro e x4 ⟨⟨v2, rfl, hv2, _⟩, hx4⟩
  dsimp only at hv2
  have HV2 := Lib.hid hv2
  have hs4 := hx4.size
  rw [size_alloc] at hs4
  have c0 : x4.cell? ⟨x3.heap.size, 0, none⟩ = some (.int .i64 rK) := (hx4.cell _ _ (by rw [size_alloc]; omega)).trans (by go_simp)
  have c1 : x4.cell? ⟨x3.heap.size, 1, none⟩ = some (.slice a1x n1 cap1) := (hx4.cell _ _ (by rw [size_alloc]; omega)).trans (by go_simp)
  have HU4 := Lib.hid ((HU3.out.alloc (.cells #[.int .i64 rK, .slice a1x n1 cap1] 25)).trans hx4)
  have HV1' := Lib.hid ((HV1.out.up ((Up.refl x3).alloc (.cells #[.int .i64 rK, .slice a1x n1 cap1] 25))).up hx4)
  have q3 : x3.heap.size < x4.heap.size := by omega
  obtain ⟨a2, cap2, rfl⟩ := hv2.slice
  rw [HN1.out] at HV2
  try rw [HN1.out]
  clear hx4 hv2 a0 a1 b0 b1 q0 q1 hs4 HU3 HRC
  dsimp only
  go_wp2_with fail
  refine (base_Lin _ _ _ _ rl rl _ (HV1'.out.up ((Up.refl x4).alloc _)) (HV2.out.up ((Up.refl x4).alloc _))).mono ?_
  rintro e x5 ⟨rfl, hx5⟩
  rw [eqForm_self]
  have HU5 := Lib.hid ((HU4.out.alloc _).trans hx5)
  clear hx5
  go_wp2_with fail
  refine (law05_alive _).mono ?_
  rintro e x6 ⟨rfl, hx6⟩
  go_wp2
  go_ret
  exact ⟨rfl, HU5.out.trans hx6⟩
end Go.Proofs.Ytpclbgaaoednnaa.linSubstitutes
