/-
  LinValidates: the walk of the law.
-/
import Derived.Test.YtpclbgaaoednnaaDoorLinFr
import Derived.Test.YtpclbgaaoednnaaDoorFu
import Derived.Test.YtpclbgaaoednnaaDoorLinS
import Derived.Test.YtpclbgaaoednnaaDoorLinO
namespace Go.Proofs.YtpclbgaaoednnaaDoor.linValidates
open Go.ChangeShapes Go.WideShapes Go.ChangeAt Go.RowKit
set_option linter.unusedVariables false
set_option linter.unusedSimpArgs false

set_option maxHeartbeats 4000000 in
set_option maxRecDepth 100000 in
theorem walk (W : World) {v : Value} {x : Int × List Mono} (w0 : LinArg W v x.1 x.2) (htab : FTab W) :
    Calls Tryd.prog 3 #[v] W fun e w' => e = .returned (.bool true) ∧ Up W w' := by
  obtain ⟨K, l⟩ := x
  obtain ⟨lv, rfl, ⟨hm, hrg, hsz⟩, hK⟩ := w0
  dsimp only at hm hrg hsz hK
  have HV := Lib.hid hm
  obtain ⟨a, cap, rfl⟩ := hm.slice
  obtain ⟨n, hn⟩ : ∃ n, l.length = n := ⟨_, rfl⟩
  rw [hn] at HV ⊢
  obtain ⟨q, hq⟩ : ∃ q, smallB l = q := ⟨_, rfl⟩
  have HSM : Hid (∀ w, MonosAt w (.slice a n cap) l → Calls Tryd.prog 4 #[.agg #[.int .i64 K, .slice a n cap]] w fun e w' => e = .returned (.bool q) ∧ Up w w') := Lib.hid fun w h => by
    have := r05_Small K _ l w h
    rw [hq] at this; exact this
  have HLEN : Hid (q = true → l.length ≤ 1000) := Lib.hid fun h => by
    rw [h] at hq
    unfold smallB at hq
    have := of_decide_eq_true (Bool.and_eq_true_iff.1 hq).1
    omega
  obtain ⟨T, hT⟩ : ∃ T, formatF K l = T := ⟨_, rfl⟩
  obtain ⟨z, hz⟩ : ∃ z, errOf (okL l) = z := ⟨_, rfl⟩
  have HF1 : Hid (l.length ≤ 1000 → ∀ x, Up W x → Calls Tryd.prog 8 #[.agg #[.int .i64 K, .slice a n cap]] x fun e w' => e = .returned (.string ⟨T.toArray⟩) ∧ Up x w') := Lib.hid fun h x hx => hT ▸ lin_Format K _ l x (HV.out.up hx) hK hrg h fun _ n hn y hy => by
    have hr : 0 ≤ n ∧ n < 18446744073709551616 := by
      rcases hn with rfl | ⟨m, hm, rfl, _⟩
      · obtain ⟨k0, k1⟩ := hK
        exact ⟨mag_nonneg K, by unfold mag; split <;> omega⟩
      · obtain ⟨k0, k1⟩ := Rng.mem hrg m hm
        exact ⟨mag_nonneg _, by unfold mag; split <;> omega⟩
    exact s_FormatUint n hr.1 hr.2 y (htab.up (hx.trans hy))
  have HF2 : Hid (l.length ≤ 1000 → ∀ x, Up W x → Calls Tryd.prog 9 #[.agg #[.int .i64 K, .slice a n cap]] x fun e w' => e = .returned (.string ⟨T.toArray⟩) ∧ Up x w') := Lib.hid fun h x hx => hT ▸ r05_Format K _ l x (HV.out.up hx) hK hrg h
  have HV1 : Hid (∀ x, Up W x → Calls Tryd.prog 6 #[.agg #[.int .i64 K, .slice a n cap]] x fun e w' => e = .returned (.int .i64 z) ∧ Up x w') := Lib.hid fun x hx => hz ▸ lin_Validate K _ l x (HV.out.up hx)
  have HV2 : Hid (∀ x, Up W x → Calls Tryd.prog 7 #[.agg #[.int .i64 K, .slice a n cap]] x fun e w' => e = .returned (.int .i64 z) ∧ Up x w') := Lib.hid fun x hx => hz ▸ r05_Validate K _ l x (HV.out.up hx)
  clear hm hrg hsz hK hq hn hT hz htab
  go_enter Tryd.func3, Tryd.ntmps3
  go_wp2_with fail
  refine (HSM.out _ (HV.out.up ((Up.refl W).alloc _))).mono ?_
  rintro e x1 ⟨rfl, hx1⟩
  have hs := hx1.size
  rw [size_alloc] at hs
  have b0 : x1.cell? ⟨W.heap.size, 0, none⟩ = some (.int .i64 K) := (hx1.cell _ _ (by rw [size_alloc]; omega)).trans (by go_simp)
  have b1 : x1.cell? ⟨W.heap.size, 1, none⟩ = some (.slice a n cap) := (hx1.cell _ _ (by rw [size_alloc]; omega)).trans (by go_simp)
  have HU1 := Lib.hid (((Up.refl W).alloc (.cells #[.int .i64 K, .slice a n cap] 24)).trans hx1)
  clear hx1
  have q0 : W.heap.size < x1.heap.size := by omega
  cases q
  · go_wp2_with fail
    refine (law05_alive _).mono ?_
    rintro e x2 ⟨rfl, hx2⟩
    go_wp2
    go_ret
    exact ⟨rfl, HU1.out.trans hx2⟩
  · have hl := HLEN.out (by trivial)
    replace HF1 := Lib.hid (HF1.out hl)
    replace HF2 := Lib.hid (HF2.out hl)
    clear hl HLEN HSM
    obtain ⟨S, hS⟩ : ∃ S : ByteArray, ⟨T.toArray⟩ = S := ⟨_, rfl⟩
    rw [hS] at HF1 HF2
    clear hS hs
    go_wp2_with fail
    refine wp_region_ext (by kernel_rfl) (by kernel_rfl) ?_
    repeat (go_big_quiet_step (first
      | (go_at_call 8; exact Calls.ext_of (HF1.out _ (HU1.out.trans (Ext.up _))))
      | (go_at_call 9; exact Calls.ext_of (HF2.out _ (HU1.out.trans (Ext.up _))))
      | (go_at_call 6; exact Calls.ext_of (HV1.out _ (HU1.out.trans (Ext.up _))))
      | (go_at_call 7; exact Calls.ext_of (HV2.out _ (HU1.out.trans (Ext.up _))))
      | (go_at_call 5; exact Calls.ext_of (law05_alive _))))
    refine wpQuiet_nil ?_
    intro x5 hx5
    go_wp2
    go_ret
    exact ⟨rfl, HU1.out.trans hx5⟩
end Go.Proofs.YtpclbgaaoednnaaDoor.linValidates

