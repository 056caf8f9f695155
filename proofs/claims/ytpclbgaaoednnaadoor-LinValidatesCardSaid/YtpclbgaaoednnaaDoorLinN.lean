/-
  The 192-bit sum as an int64.
-/
import Derived.Test.YtpclbgaaoednnaaDoorLinW
namespace Go.Proofs.YtpclbgaaoednnaaDoor
set_option linter.unusedSimpArgs false
open Go.ChangeShapes Go.WideShapes Go.ChangeAt Go.RowKit
set_option linter.unusedVariables false

def fitB (n : Int) : Bool := decide (-9223372036854775808 ≤ n) && decide (n ≤ 9223372036854775807)

set_option maxHeartbeats 2000000 in
theorem wide_narrow (b : Nat) (n : Int) (w : World) (hw : WAt w b n) (n0 : -1569275433846670190958947355801916604025588861116008628224 ≤ n) (n1 : n ≤ 1569275433846670190958947355801916604025588861116008628224) :
    Calls Tryd.prog 28 #[.pointer (some ⟨b, 0, none⟩)] w fun e w' => ∃ x, e = .returned (.tuple #[.int .i64 x, .bool (fitB n)]) ∧ (fitB n = true → x = n) ∧ Up w w' := by
  obtain ⟨h, m, l, hd, lt, c0, c1, c2, fz⟩ := hw
  obtain ⟨⟨h0, h1⟩, ⟨m0, m1⟩, ⟨l0, l1⟩, hn⟩ := hd
  have HN := Lib.hid hn
  have HB := Lib.hid (And.intro n0 n1)
  clear hn n0 n1
  by_cases hl : l < 9223372036854775808
  · have e1 : wrap64 l = l := by unfold wrap64; omega
    have e2 : l / 9223372036854775808 = 0 := by omega
    by_cases hm : m = 0
    · by_cases hh : h = 0
      · subst hm hh
        have hf : fitB n = true := by
          have := HN.out
          have := HB.out
          simp [fitB]; omega
        go_enter Tryd.func28, Tryd.ntmps28
        go_wp2
        refine wp_region_ext (by kernel_rfl) (by kernel_rfl) ?_
        repeat (go_big_quiet_step (fail))
        refine wpQuiet_nil ?_
        intro x hx
        go_wp2
        go_ret2
        refine ⟨_, ret_ib rfl hf.symm, ?_, hx⟩
        intro hg
        have := HN.out
        have := HB.out
        simp [fitB] at hg
        omega
      · subst hm
        have hh2 : (h == 0) = false := by simpa using hh
        have hf : fitB n = false := by
          have := HN.out
          have := HB.out
          simp [fitB]; omega
        go_enter Tryd.func28, Tryd.ntmps28
        go_wp2
        refine wp_region_ext (by kernel_rfl) (by kernel_rfl) ?_
        repeat (go_big_quiet_step (fail))
        refine wpQuiet_nil ?_
        intro x hx
        go_wp2
        go_ret2
        refine ⟨_, ret_ib rfl hf.symm, ?_, hx⟩
        intro hg
        rw [hf] at hg
        cases hg
    · have hm2 : (m == 0) = false := by simpa using hm
      have hf : fitB n = false := by
        have := HN.out
        have := HB.out
        simp [fitB]; omega
      go_enter Tryd.func28, Tryd.ntmps28
      go_wp2
      refine wp_region_ext (by kernel_rfl) (by kernel_rfl) ?_
      repeat (go_big_quiet_step (fail))
      refine wpQuiet_nil ?_
      intro x hx
      go_wp2
      go_ret2
      refine ⟨_, ret_ib rfl hf.symm, ?_, hx⟩
      intro hg
      rw [hf] at hg
      cases hg
  · have e1 : wrap64 l = l - 18446744073709551616 := by unfold wrap64; omega
    have e2 : (l - 18446744073709551616) / 9223372036854775808 = -1 := by omega
    have e3 : IntKind.u64.wrap (-1) = 18446744073709551615 := by rw [IntKind.wrap_u64]; rfl
    by_cases hm : m = 18446744073709551615
    · by_cases hh : h = 18446744073709551615
      · subst hm hh
        have hf : fitB n = true := by
          have := HN.out
          have := HB.out
          simp [fitB]; omega
        go_enter Tryd.func28, Tryd.ntmps28
        go_wp2
        refine wp_region_ext (by kernel_rfl) (by kernel_rfl) ?_
        repeat (go_big_quiet_step (fail))
        refine wpQuiet_nil ?_
        intro x hx
        go_wp2
        go_ret2
        refine ⟨_, ret_ib rfl hf.symm, ?_, hx⟩
        intro hg
        have := HN.out
        have := HB.out
        simp [fitB] at hg
        omega
      · subst hm
        have hh2 : (h == 18446744073709551615) = false := by simpa using hh
        have hf : fitB n = false := by
          have := HN.out
          have := HB.out
          simp [fitB]; omega
        go_enter Tryd.func28, Tryd.ntmps28
        go_wp2
        refine wp_region_ext (by kernel_rfl) (by kernel_rfl) ?_
        repeat (go_big_quiet_step (fail))
        refine wpQuiet_nil ?_
        intro x hx
        go_wp2
        go_ret2
        refine ⟨_, ret_ib rfl hf.symm, ?_, hx⟩
        intro hg
        rw [hf] at hg
        cases hg
    · have hm2 : (m == 18446744073709551615) = false := by simpa using hm
      have hf : fitB n = false := by
        have := HN.out
        have := HB.out
        simp [fitB]; omega
      go_enter Tryd.func28, Tryd.ntmps28
      go_wp2
      refine wp_region_ext (by kernel_rfl) (by kernel_rfl) ?_
      repeat (go_big_quiet_step (fail))
      refine wpQuiet_nil ?_
      intro x hx
      go_wp2
      go_ret2
      refine ⟨_, ret_ib rfl hf.symm, ?_, hx⟩
      intro hg
      rw [hf] at hg
      cases hg
end Go.Proofs.YtpclbgaaoednnaaDoor

