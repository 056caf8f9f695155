/-
  LinEvals: the walk of the law.
-/
import Derived.Test.YtpclbgaaoednnaaLinDe
import Derived.Test.YtpclbgaaoednnaaLinO
namespace Go.Proofs.Ytpclbgaaoednnaa.linEvals
open Go.ChangeShapes Go.WideShapes Go.ChangeAt Go.RowKit
set_option linter.unusedVariables false

set_option maxHeartbeats 2000000 in
theorem walk (W : World) {v ev : Value} {x : Int × List Mono} {env : List Mono} (w0 : LinArg W v x.1 x.2) (w1 : MonosArg W ev env) :
    Calls Try.prog 4 #[v, ev] W fun e w' => e = .returned (.bool true) ∧ Up W w' := by
  obtain ⟨K, l⟩ := x
  obtain ⟨lv, rfl, ⟨hm, hrg, hsz⟩, hK⟩ := w0
  obtain ⟨he, hre, _, _⟩ := w1
  dsimp only at hm hrg hsz hK
  have HV := Lib.hid hm
  have HE := Lib.hid he
  have hemax := he.max
  obtain ⟨a, cap, rfl⟩ := hm.slice
  obtain ⟨a', cap', rfl⟩ := he.slice
  obtain ⟨n, hn⟩ : ∃ n, l.length = n := ⟨_, rfl⟩
  obtain ⟨n', hn'⟩ : ∃ n, env.length = n := ⟨_, rfl⟩
  rw [hn] at HV ⊢
  rw [hn'] at HE hemax ⊢
  obtain ⟨r, hr⟩ : ∃ r, evalF K l env = r := ⟨_, rfl⟩
  obtain ⟨q, hq⟩ : ∃ q, smallB l = q := ⟨_, rfl⟩
  have HSM : Hid (∀ w, MonosAt w (.slice a n cap) l → Calls Try.prog 18 #[.agg #[.int .i64 K, .slice a n cap]] w fun e w' => e = .returned (.bool q) ∧ Up w w') := Lib.hid fun w h => by
    have := r05_Small K _ l w h
    rw [hq] at this; exact this
  have HLEN : Hid (q = true → l.length ≤ 1000) := Lib.hid fun h => by
    rw [h] at hq
    unfold smallB at hq
    have := of_decide_eq_true (Bool.and_eq_true_iff.1 hq).1
    omega
  have HSC : Hid (l.length ≤ 1000 → ∀ w, MonosAt w (.slice a n cap) l → MonosAt w (.slice a' n' cap') env → Calls Try.prog 20 #[.agg #[.int .i64 K, .slice a n cap], .slice a' n' cap'] w fun e w' => e = .returned (.tuple #[.int .i64 r.1, .int .i64 r.2]) ∧ Up w w') := Lib.hid fun h w hw hw' => by
    rw [← hr]; exact lin_Eval K _ _ l env w hw hw' hK hrg hre h
  have HRC : Hid (l.length ≤ 1000 → ∀ w, MonosAt w (.slice a n cap) l → MonosAt w (.slice a' n' cap') env → Calls Try.prog 21 #[.agg #[.int .i64 K, .slice a n cap], .slice a' n' cap'] w fun e w' => e = .returned (.tuple #[.int .i64 r.1, .int .i64 r.2]) ∧ Up w w') := Lib.hid fun h w hw hw' => by
    rw [← hr]; exact r05_Eval K _ _ l env w hw hw' hK hrg hre h
  obtain ⟨rv, re⟩ := r
  clear hm hrg hsz hK hr hq hn hn' he hre
  go_enter Try.func4, Try.ntmps4
  go_wp2_with fail
  refine (HSM.out _ (HV.out.up ((Up.refl W).alloc _))).mono ?_
  rintro e x1 ⟨rfl, hx1⟩
  have hs := hx1.size
  rw [size_alloc] at hs
  have b0 : x1.cell? ⟨W.heap.size, 0, none⟩ = some (.int .i64 K) := (hx1.cell _ _ (by rw [size_alloc]; omega)).trans (by go_simp)
  have b1 : x1.cell? ⟨W.heap.size, 1, none⟩ = some (.slice a n cap) := (hx1.cell _ _ (by rw [size_alloc]; omega)).trans (by go_simp)
  have HU1 := Lib.hid (((Up.refl W).alloc (.cells #[.int .i64 K, .slice a n cap] 25)).trans hx1)
  clear hx1
  have q0 : W.heap.size < x1.heap.size := by omega
  have hgo : q = true ∧ (n' : Int) ≤ 40 ∨ (q = false ∨ 40 < (n' : Int)) := by cases q <;> simp <;> omega
  rcases hgo with ⟨rfl, h40⟩ | hbad
  · have HL := Lib.hid (HLEN.out (by trivial))
    go_wp2_with fail
    refine (HSC.out HL.out _ (HV.out.up HU1.out) (HE.out.up HU1.out)).mono ?_
    rintro e x2 ⟨rfl, hx2⟩
    have b0' : x2.cell? ⟨W.heap.size, 0, none⟩ = some (.int .i64 K) := (hx2.cell _ _ q0).trans b0
    have b1' : x2.cell? ⟨W.heap.size, 1, none⟩ = some (.slice a n cap) := (hx2.cell _ _ q0).trans b1
    have HU2 := Lib.hid (HU1.out.trans hx2)
    clear hx2 b0 b1
    go_wp2_with fail
    refine (HRC.out HL.out _ (HV.out.up HU2.out) (HE.out.up HU2.out)).mono ?_
    rintro e x3 ⟨rfl, hx3⟩
    have HU3 := Lib.hid (HU2.out.trans hx3)
    clear hx3
    go_wp2_with fail
    refine (law05_alive _).mono ?_
    rintro e x5 ⟨rfl, hx5⟩
    go_wp2
    go_ret
    exact ⟨rfl, HU3.out.trans hx5⟩
  · rcases hbad with rfl | h40
    · go_wp2_with fail
      refine (law05_alive _).mono ?_
      rintro e x2 ⟨rfl, hx2⟩
      go_wp2
      go_ret
      exact ⟨rfl, HU1.out.trans hx2⟩
    · cases q <;>
      · go_wp2_with fail
        refine (law05_alive _).mono ?_
        rintro e x2 ⟨rfl, hx2⟩
        go_wp2
        go_ret
        exact ⟨rfl, HU1.out.trans hx2⟩
end Go.Proofs.Ytpclbgaaoednnaa.linEvals
