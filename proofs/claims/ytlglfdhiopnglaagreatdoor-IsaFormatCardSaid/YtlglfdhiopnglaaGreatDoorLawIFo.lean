/-
  IsaFormat: the walk of the law.
-/
import Derived.Test.YtlglfdhiopnglaaGreatDoorIsEx
import Derived.Test.YtlglfdhiopnglaaGreatDoorIsLf
import Derived.Test.YtlglfdhiopnglaaGreatDoorPeOi
namespace Go.Proofs.YtlglfdhiopnglaaGreatDoor.isaFormat
open Go.ChangeShapes Go.WideShapes Go.ChangeAt Go.RowKit
set_option linter.unusedVariables false
set_option linter.unusedSimpArgs false
set_option maxRecDepth 100000

theorem r47_mne (op : Int) (w : World) : Calls Tryz.prog 15 #[.int .i64 op] w fun e w' => e = .returned (.string (mneS op)) ∧ Up w w' := by
  unfold mneS
  by_cases h : knownB op = true
  · rw [if_pos h]
    obtain ⟨o, rfl⟩ : ∃ o : Nat, op = o := ⟨op.toNat, by simp [knownB] at h; omega⟩
    exact r47_Mnemonic o (by simp [knownB] at h; omega) w
  · rw [if_neg h]
    exact r47_Mnemonic_no op (by simpa using h) w

set_option maxHeartbeats 8000000 in
theorem walk (W : World) {v : Value} {l : List Ins} {op : Int} (w0 : InsAt W v l) (w1 : (Lit.int .i64 op).wf = true) (hF : RdW W ∧ FTab W ∧ ITab W ∧ WTab W) :
    Calls Tryz.prog 4 #[v, .int .i64 op] W fun e w' => e = .returned (.bool true) ∧ Up W w' := by
  obtain ⟨hR, hFt, hI, hW⟩ := hF
  have HEX := Lib.hid (fun x (hx : Up W x) => law_examples x (hR.up hx) (hFt.up hx) (hI.up hx) (hW.up hx))
  obtain ⟨F, hF⟩ : ∃ F, bst (formatL l) = F := ⟨_, rfl⟩
  obtain ⟨M, hM⟩ : ∃ M, mneS op = M := ⟨_, rfl⟩
  have HFM := Lib.hid (fun x (hx : Up W x) (hm : l.length ≤ 100000) => hF ▸ isa_Format v l x (w0.up hx) hm (hFt.up hx) (hI.up hx) (hW.up hx))
  have HRF := Lib.hid (fun x (hx : Up W x) (hm : l.length ≤ 200) => hF ▸ r47_Format v l x (w0.up hx) hm)
  have HMN := Lib.hid (fun x (hx : Up W x) => hM ▸ isa_Mnemonic op x (hW.up hx))
  have HRM := Lib.hid (fun x => hM ▸ r47_mne op x)
  obtain ⟨⟨a, cap, rfl⟩, hmax⟩ := w0.slice
  generalize l.length = n at *
  clear w0 w1 hR hFt hI hW hF hM
  go_enter Tryz.func4, Tryz.ntmps4
  by_cases h1 : 200 < n
  · have h1I : (200 : Int) < n := by omega
    go_wp2_with (go_at_call 9; refine (HEX.out _ (Up.refl _)).mono ?_; rintro e ze ⟨rfl, hze⟩)
    go_ret
    exact ⟨rfl, hze⟩
  · have h1I : ¬ (200 : Int) < n := by omega
    replace HFM := Lib.hid (fun x hx => HFM.out x hx (by omega))
    replace HRF := Lib.hid (fun x hx => HRF.out x hx (by omega))
    go_wp2_with (first
      | (go_at_call 9; refine (HEX.out _ HU4.out).mono ?_; rintro e ze ⟨rfl, hze⟩)
      | (go_at_call 15; refine (HRM.out _).mono ?_; rintro e z4 ⟨rfl, hz4⟩; have HU4 := Lib.hid (HU3.out.trans hz4); clear hz4)
      | (go_at_call 14; refine (HMN.out _ HU2.out).mono ?_; rintro e z3 ⟨rfl, hz3⟩; have HU3 := Lib.hid (HU2.out.trans hz3); clear hz3)
      | (go_at_call 13; refine (HRF.out _ HU.out).mono ?_; rintro e z2 ⟨rfl, hz2⟩; have HU2 := Lib.hid (HU.out.trans hz2); clear hz2)
      | (go_at_call 12; refine (HFM.out _ (Up.refl _)).mono ?_; rintro e z ⟨rfl, hz⟩; have HU := Lib.hid hz; clear hz))
    go_ret
    exact ⟨rfl, HU4.out.trans hze⟩
end Go.Proofs.YtlglfdhiopnglaaGreatDoor.isaFormat
