/-
  LinScales: the walk of the law.
-/
import Derived.Test.YtpclbgaaoednnaaLinSr
namespace Go.Proofs.Ytpclbgaaoednnaa.linScales
open Go.ChangeShapes Go.WideShapes Go.ChangeAt Go.RowKit
set_option linter.unusedVariables false

theorem eqForm_self (K : Int) (l : List Mono) : eqForm K K l l = true := by simp [eqForm, eqM]

set_option maxHeartbeats 2000000 in
theorem walk (W : World) {v : Value} {x : Int × List Mono} {y : Int} (w0 : LinArg W v x.1 x.2) (w1 : (Lit.int .i64 y).wf = true) :
    Calls Try.prog 5 #[v, .int .i64 y] W fun e w' => e = .returned (.bool true) ∧ Up W w' := by
  obtain ⟨K, l⟩ := x
  obtain ⟨lv, rfl, ⟨hm, hrg, hsz⟩, hK⟩ := w0
  have hy := in64_wf w1
  dsimp only at hm hrg hsz hK
  have HV := Lib.hid hm
  obtain ⟨a, cap, rfl⟩ := hm.slice
  obtain ⟨n, hn⟩ : ∃ n, l.length = n := ⟨_, rfl⟩
  rw [hn] at HV ⊢
  obtain ⟨r, hr⟩ : ∃ r, scaleF K l y = r := ⟨_, rfl⟩
  obtain ⟨q, hq⟩ : ∃ q, smallB l = q := ⟨_, rfl⟩
  have HSM : Hid (∀ w, MonosAt w (.slice a n cap) l → Calls Try.prog 18 #[.agg #[.int .i64 K, .slice a n cap]] w fun e w' => e = .returned (.bool q) ∧ Up w w') := Lib.hid fun w h => by
    have := r05_Small K _ l w h
    rw [hq] at this; exact this
  have HLEN : Hid (q = true → l.length ≤ 1000) := Lib.hid fun h => by
    rw [h] at hq
    unfold smallB at hq
    have := of_decide_eq_true (Bool.and_eq_true_iff.1 hq).1
    omega
  have HSC : Hid (l.length ≤ 1000 → ∀ w, MonosAt w (.slice a n cap) l → Calls Try.prog 22 #[.agg #[.int .i64 K, .slice a n cap], .int .i64 y] w fun e w' => LinErr e w' r ∧ Up w w') := Lib.hid fun h w hw => by
    rw [← hr]; exact lin_Scale K y _ l w hw hK hrg hy h
  have HRC : Hid (l.length ≤ 1000 → ∀ w, MonosAt w (.slice a n cap) l → Calls Try.prog 23 #[.agg #[.int .i64 K, .slice a n cap], .int .i64 y] w fun e w' => LinErr e w' r ∧ Up w w') := Lib.hid fun h w hw => by
    rw [← hr]; exact r05_Scale K y _ l w hw hK hrg hy h
  obtain ⟨rK, rl, re⟩ := r
  clear hm hrg hsz hK hy hr hq hn w1
  go_enter Try.func5, Try.ntmps5
  go_wp2_with fail
  refine (HSM.out _ (HV.out.up ((Up.refl W).alloc _))).mono ?_
  rintro e x1 ⟨rfl, hx1⟩
  have hs := hx1.size
  rw [size_alloc] at hs
  have b0 : x1.cell? ⟨W.heap.size, 0, none⟩ = some (.int .i64 K) := (hx1.cell _ _ (by rw [size_alloc]; omega)).trans (by go_simp)
  have b1 : x1.cell? ⟨W.heap.size, 1, none⟩ = some (.slice a n cap) := (hx1.cell _ _ (by rw [size_alloc]; omega)).trans (by go_simp)
  have HU1 := Lib.hid (((Up.refl W).alloc (.cells #[.int .i64 K, .slice a n cap] 25)).trans hx1)
  clear hx1
  have q0 : W.heap.size < x1.heap.size := by omega
  cases q
  · go_wp2_with fail
    refine (law05_alive _).mono ?_
    rintro e x2 ⟨rfl, hx2⟩
    go_wp2
    go_ret
    exact ⟨rfl, HU1.out.trans hx2⟩
  · go_wp2_with fail
    refine (HSC.out (HLEN.out (by trivial)) _ (HV.out.up HU1.out)).mono ?_
    rintro e x2 ⟨⟨v1, rfl, hv1, _⟩, hx2⟩
    have HV1 := Lib.hid hv1
    obtain ⟨a1, cap1, rfl⟩ := hv1.slice
    have hs2 := hx2.size
    have b0' : x2.cell? ⟨W.heap.size, 0, none⟩ = some (.int .i64 K) := (hx2.cell _ _ q0).trans b0
    have b1' : x2.cell? ⟨W.heap.size, 1, none⟩ = some (.slice a n cap) := (hx2.cell _ _ q0).trans b1
    have HU2 := Lib.hid (HU1.out.trans hx2)
    have q2 : W.heap.size < x2.heap.size := by omega
    obtain ⟨n1, hn1⟩ : ∃ n, rl.length = n := ⟨_, rfl⟩
    have HN1 := Lib.hid hn1
    dsimp only at hn1 HV1 hv1
    clear hx2 hv1 b0 b1
    rw [hn1] at HV1
    try rw [hn1]
    clear hn1
    go_wp2_with fail
    refine (HRC.out (HLEN.out (by trivial)) _ (HV.out.up (HU2.out.alloc _))).mono ?_
    rintro e x3 ⟨⟨v2, rfl, hv2, _⟩, hx3⟩
    have HV2 := Lib.hid hv2
    have hs3 := hx3.size
    rw [size_alloc] at hs3
    have c0 : x3.cell? ⟨x2.heap.size, 0, none⟩ = some (.int .i64 rK) := (hx3.cell _ _ (by rw [size_alloc]; omega)).trans (by go_simp)
    have c1 : x3.cell? ⟨x2.heap.size, 1, none⟩ = some (.slice a1 n1 cap1) := (hx3.cell _ _ (by rw [size_alloc]; omega)).trans (by go_simp)
    have HU3 := Lib.hid ((HU2.out.alloc (.cells #[.int .i64 rK, .slice a1 n1 cap1] 25)).trans hx3)
    have HV1' := Lib.hid ((HV1.out.up ((Up.refl x2).alloc (.cells #[.int .i64 rK, .slice a1 n1 cap1] 25))).up hx3)
    have q3 : x2.heap.size < x3.heap.size := by omega
    clear hx3 hv2 b0' b1'
    dsimp only at HV2
    obtain ⟨a2, cap2, rfl⟩ := HV2.out.slice
    rw [HN1.out] at HV2
    try rw [HN1.out]
    go_wp2_with fail
    refine (base_Lin _ _ _ _ rl rl _ (HV1'.out.up ((Up.refl x3).alloc _)) (HV2.out.up ((Up.refl x3).alloc _))).mono ?_
    rintro e x4 ⟨rfl, hx4⟩
    rw [eqForm_self]
    have HU4 := Lib.hid ((HU3.out.alloc _).trans hx4)
    clear hx4
    go_wp2_with fail
    refine (law05_alive _).mono ?_
    rintro e x5 ⟨rfl, hx5⟩
    go_wp2
    go_ret
    exact ⟨rfl, HU4.out.trans hx5⟩
end Go.Proofs.Ytpclbgaaoednnaa.linScales
