/-
  Valid code: plain.
-/
import Derived.Test.YtlglfdhiopnglaaGreatDoorPeD
import Derived.Test.YtlglfdhiopnglaaGreatDoorGj
namespace Go.Proofs.YtlglfdhiopnglaaGreatDoor
open Go.ChangeShapes Go.WideShapes Go.ChangeAt Go.RowKit
set_option linter.unusedVariables false
set_option linter.unusedSimpArgs false
set_option maxRecDepth 100000

theorem valG_iff (many types words : Int) : ∀ (l : List Ins) (k : Int), (valG many types words l k).2 = 0 ↔ ∀ x ∈ l, valB x many types words = true
  | [], k => by simp [valG]
  | x :: r, k => by
    rw [valG_cons]
    by_cases h : valB x many types words = true
    · rw [if_pos h, valG_iff many types words r]
      simp [h]
    · rw [if_neg h]
      simp [h]
def ValidB (l : List Ins) (ts : List Typ) (words : Int) : Prop := l.length ≤ 65536 ∧ inB words 0 1048576 = true ∧ ts.all typB = true ∧ ∀ x ∈ l, valB x l.length ts.length words = true
theorem valid_iff (l : List Ins) (ts : List Typ) (words : Int) : (validateF l ts words).2 = 0 ↔ ValidB l ts words := by
  unfold validateF ValidB
  by_cases h1 : 65536 < l.length
  · rw [if_pos h1]; simp; omega
  · rw [if_neg h1]
    by_cases h2 : inB words 0 1048576 = false
    · rw [if_pos h2]; simp [h2]
    · rw [if_neg h2]
      by_cases h3 : ts.all typB = true
      · rw [if_pos h3, valG_iff]
        have h2' : inB words 0 1048576 = true := by simpa using h2
        exact ⟨fun h => ⟨by omega, h2', h3, h⟩, fun h => h.2.2.2⟩
      · rw [if_neg h3]; simp [h3]
theorem kd_t {op : Int} (h : jumpsB op = true) : kdN op.toNat 0 = 116 := by
  simp only [jumpsB, Bool.or_eq_true, decide_eq_true_eq] at h
  rcases h with (rfl | rfl) | rfl <;> kernel_rfl
theorem valid_jump {x : Ins} {many types words : Int} (h : valB x many types words = true) (hj : jumpsB x.1 = true) : 0 ≤ x.2.1 ∧ x.2.1 < many := by
  unfold valB at h
  rw [wf_form, hj] at h
  simp only [formB, Bool.and_eq_true, if_true, decide_eq_true_eq] at h
  obtain ⟨⟨_, hf, _⟩, hm⟩ := h
  rw [kd_t hj] at hf
  have : inB x.2.1 0 65535 = true := hf
  simp only [inB, decide_eq_true_eq] at this
  exact ⟨this.1, hm⟩
end Go.Proofs.YtlglfdhiopnglaaGreatDoor

