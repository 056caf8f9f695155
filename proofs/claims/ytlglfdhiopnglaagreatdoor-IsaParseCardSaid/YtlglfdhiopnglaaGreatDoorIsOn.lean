/-
  The reference 47, reading: one.
-/
import Derived.Test.YtlglfdhiopnglaaGreatDoorGk
import Derived.Test.YtlglfdhiopnglaaGreatDoorIsG
namespace Go.Proofs.YtlglfdhiopnglaaGreatDoor
open Go.ChangeShapes Go.WideShapes Go.ChangeAt Go.RowKit
set_option linter.unusedVariables false
set_option linter.unusedSimpArgs false
set_option maxRecDepth 100000

set_option maxHeartbeats 8000000 in
theorem r47_one (kind : Int) (v : Value) (L : List (List UInt8)) (w : World) (hv : StrsC w v L) (hL : L.length ≤ 20000) (hT : ∀ T ∈ L, T.length ≤ 10000) (hP : ∀ T, T.length ≤ 10000 → RPar T) :
    Calls Tryz.prog 69 #[v, .int .u8 kind] w fun e w' => ∃ u, e = .returned (.tuple #[.int .i64 (oneF kind L).1, u, .bool (oneF kind L).2.2]) ∧ Up w w' ∧ StrsC w' u (oneF kind L).2.1 ∧ ∀ b, blk u = some b → blk v = some b := by
  unfold oneF
  by_cases h1 : kind = 45
  · rw [if_pos h1]
    subst h1
    have HV := Lib.hid hv
    obtain ⟨a, c, rfl, hc, _⟩ := hv
    go_enter Tryz.func69, Tryz.ntmps69
    go_wp2
    go_ret3
    exact ⟨_, rfl, Up.refl _, HV.out, fun b h => h⟩
  rw [if_neg h1]
  have h1b : (kind == 45) = false := by simpa using h1
  clear h1
  cases L with
  | nil =>
    obtain ⟨a, c, rfl, hc, hs⟩ := hv
    dsimp only [List.length_nil]
    go_enter Tryz.func69, Tryz.ntmps69
    go_wp2
    go_ret3
    exact ⟨_, rfl, Up.refl _, ⟨none, 0, rfl, by simp, ⟨⟨none, 0, rfl, fun _ => rfl, fun x hx => nomatch hx⟩, by simp⟩⟩, fun b h => by have h : none = some b := h; cases h⟩
  | cons T r =>
    dsimp only
    obtain ⟨a, c, rfl, hc, hs⟩ := hv
    obtain ⟨g, o, ha, hg, hcell⟩ := StrsAt.get hs (a := a) (n := (T :: r).length) (c := c) rfl 0 (by simp)
    subst ha
    rw [show ((T :: r).map bst).getD 0 ⟨#[]⟩ = bst T from rfl] at hcell
    have HRG := Lib.hid (fun w => r47_register kind T (hT T List.mem_cons_self) (fun U hU => hP U (Nat.le_trans hU (hT T List.mem_cons_self))) w)
    have HTL := Lib.hid (StrsAt.tail hs (by rw [List.length_map]) (by simp) hc)
    obtain ⟨m, hm⟩ : ∃ m, (T :: r).length = m := ⟨_, rfl⟩
    have hm2 : r.length = m - 1 := by rw [← hm]; rfl
    have hm0 : 0 < m := by rw [← hm]; simp
    rw [hm] at hc HTL hL ⊢
    have HM2 := Lib.hid hm2
    have hmI : (m : Int) ≤ 20000 := by omega
    have hm0I : (0 : Int) < m := by omega
    have hm1I : ((m : Int) == 0) = false := by simp; omega
    clear hs hT hP hm hm2
    obtain ⟨q, hq⟩ : ∃ q, rgF kind T = q := ⟨_, rfl⟩
    rw [hq] at HRG ⊢
    clear hq
    obtain ⟨q1, q2⟩ := q
    rw [Nat.add_zero] at hcell
    generalize bst T = B at *
    go_enter Tryz.func69, Tryz.ntmps69
    go_wp2_with (go_at_call 95; refine (HRG.out _).mono ?_; rintro e x ⟨rfl, hx⟩; have HX := Lib.hid hx; clear hx)
    have hc1 : (1 : Int) ≤ (m : Int) := by omega
    have hcI : (m : Int) ≤ (c : Int) := by omega
    by_cases hcc : c = 1
    · have HC := Lib.hid hcc
      refine wp_region_ext (by kernel_rfl) (by kernel_rfl) ?_
      repeat (go_big_quiet_step (fail))
      refine wpQuiet_nil ?_
      intro z hz
      go_wp2
      go_ret3
      refine ⟨_, rfl, HX.out.trans hz, ?_, fun b h => h⟩
      have h := HTL.out
      rw [if_pos HC.out] at h
      rw [show c - 1 = 0 by have := HC.out; omega] at h
      exact (show StrsC z (.slice (some ⟨g, o, none⟩) (m - 1) 0) r from ⟨_, _, by rw [HM2.out], by rw [HM2.out]; have := HC.out; omega, h.up (HX.out.trans hz)⟩)
    · have HC := Lib.hid hcc
      refine wp_region_ext (by kernel_rfl) (by kernel_rfl) ?_
      repeat (go_big_quiet_step (fail))
      refine wpQuiet_nil ?_
      intro z hz
      go_wp2
      go_ret3
      refine ⟨_, rfl, HX.out.trans hz, ?_, fun b h => h⟩
      have h := HTL.out
      rw [if_neg HC.out] at h
      exact (show StrsC z (.slice (some ⟨g, o + 1, none⟩) (m - 1) (c - 1)) r from ⟨_, _, by rw [HM2.out], by rw [HM2.out]; omega, h.up (HX.out.trans hz)⟩)
end Go.Proofs.YtlglfdhiopnglaaGreatDoor
