/-
  IsaValidate: the walk of the law.
-/
import Derived.Test.YtlglfdhiopnglaaGreatDoorIsEx
import Derived.Test.YtlglfdhiopnglaaGreatDoorPeOi
namespace Go.Proofs.YtlglfdhiopnglaaGreatDoor.isaValidate
open Go.ChangeShapes Go.WideShapes Go.ChangeAt Go.RowKit
set_option linter.unusedVariables false
set_option linter.unusedSimpArgs false
set_option maxRecDepth 100000

set_option maxHeartbeats 8000000 in
theorem walk (W : World) {v u : Value} {l : List Ins} {ts : List Typ} {words : Int} (w0 : InsAt W v l) (w1 : TypAt W u ts) (w2 : (Lit.int .i64 words).wf = true) (hF : RdW W ∧ FTab W ∧ ITab W ∧ WTab W) :
    Calls Tryz.prog 3 #[v, u, .int .i64 words] W fun e w' => e = .returned (.bool true) ∧ Up W w' := by
  have HEX := Lib.hid (fun x (hx : Up W x) => law_examples x (hF.1.up hx) (hF.2.1.up hx) (hF.2.2.1.up hx) (hF.2.2.2.up hx))
  obtain ⟨q, hq⟩ : ∃ q, validateF l ts words = q := ⟨_, rfl⟩
  have HA := Lib.hid (fun (h1 : l.length ≤ 100000) (h2 : ts.length ≤ 100000) => hq ▸ isa_Validate v u l ts words W w0 w1 hF.2.2.1 h1 h2)
  have HB := Lib.hid (fun x (hx : Up W x) (h1 : l.length ≤ 100000) (h2 : ts.length ≤ 100000) => hq ▸ r47_Validate v u l ts words x (w0.up hx) (w1.up hx) h1 h2)
  obtain ⟨⟨a, cap, rfl⟩, hmax⟩ := w0.slice
  obtain ⟨⟨ta, tcap, rfl⟩, htmax⟩ := w1.slice
  generalize l.length = n at *
  generalize ts.length = m at *
  clear w0 w1 w2 hF hq
  go_enter Tryz.func3, Tryz.ntmps3
  by_cases h1 : 200 < n
  · have h1I : (200 : Int) < n := by omega
    go_wp2_with (go_at_call 9; refine (HEX.out _ (Up.refl _)).mono ?_; rintro e ze ⟨rfl, hze⟩)
    go_ret
    exact ⟨rfl, hze⟩
  · have h1I : ¬ (200 : Int) < n := by omega
    by_cases h2 : 200 < m
    · have h2I : (200 : Int) < m := by omega
      go_wp2_with (go_at_call 9; refine (HEX.out _ (Up.refl _)).mono ?_; rintro e ze ⟨rfl, hze⟩)
      go_ret
      exact ⟨rfl, hze⟩
    · have h2I : ¬ (200 : Int) < m := by omega
      replace HA := Lib.hid (HA.out (by omega) (by omega))
      replace HB := Lib.hid (fun x hx => HB.out x hx (by omega) (by omega))
      obtain ⟨q1, q2⟩ := q
      go_wp2_with (first
        | (go_at_call 9; refine (HEX.out _ HU2.out).mono ?_; rintro e ze ⟨rfl, hze⟩)
        | (go_at_call 11; refine (HB.out _ HU.out).mono ?_; rintro e z2 ⟨rfl, hz2⟩; have HU2 := Lib.hid (HU.out.trans hz2); clear hz2)
        | (go_at_call 10; refine HA.out.mono ?_; rintro e z ⟨rfl, hz⟩; have HU := Lib.hid hz; clear hz))
      go_ret
      exact ⟨rfl, HU2.out.trans hze⟩
end Go.Proofs.YtlglfdhiopnglaaGreatDoor.isaValidate
