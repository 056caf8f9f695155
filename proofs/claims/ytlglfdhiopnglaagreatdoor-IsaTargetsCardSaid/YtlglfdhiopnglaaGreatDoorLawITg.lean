/-
  IsaTargets: the walk of the law.
-/
import Derived.Test.YtlglfdhiopnglaaGreatDoorIsEx
import Derived.Test.YtlglfdhiopnglaaGreatDoorIsTr
import Derived.Test.YtlglfdhiopnglaaGreatDoorPeOi
namespace Go.Proofs.YtlglfdhiopnglaaGreatDoor.isaTargets
open Go.ChangeShapes Go.WideShapes Go.ChangeAt Go.RowKit
set_option linter.unusedVariables false
set_option linter.unusedSimpArgs false
set_option maxRecDepth 100000

set_option maxHeartbeats 8000000 in
theorem walk (W : World) {v : Value} {l : List Ins} {c : Int} (w0 : InsAt W v l) (w1 : (Lit.int .i64 c).wf = true) (hF : RdW W ∧ FTab W ∧ ITab W ∧ WTab W) :
    Calls Tryz.prog 7 #[v, .int .i64 c] W fun e w' => e = .returned (.bool true) ∧ Up W w' := by
  obtain ⟨hR, hFt, hI, hW⟩ := hF
  have HEX := Lib.hid (fun x (hx : Up W x) => law_examples x (hR.up hx) (hFt.up hx) (hI.up hx) (hW.up hx))
  have HV := Lib.hid w0
  obtain ⟨⟨a, cap, rfl⟩, hmax⟩ := w0.slice
  obtain ⟨n, hn⟩ : ∃ n, l.length = n := ⟨_, rfl⟩
  have HVK : Hid (InsAt W (.slice a n cap) l) := Lib.hid (by have := HV.out; rw [hn] at this; exact this)
  rw [hn] at hmax ⊢
  have HN := Lib.hid hn
  clear HV
  go_enter Tryz.func7, Tryz.ntmps7
  by_cases h1 : 200 < n
  · have h1I : (200 : Int) < n := by omega
    clear hn w0 w1 hR hFt hI hW
    go_wp2_with (go_at_call 9; refine (HEX.out _ (Up.refl _)).mono ?_; rintro e ze ⟨rfl, hze⟩)
    go_ret
    exact ⟨rfl, hze⟩
  · have h1I : ¬ (200 : Int) < n := by omega
    have hl : l.length ≤ 100000 := by omega
    have H1 := Lib.hid (isa_Targets (.slice a n cap) l W HVK.out hl hI)
    have H2 := Lib.hid (fun x (hx : Up W x) => r47_Targets (.slice a n cap) l x (HVK.out.up hx) hl)
    rw [rT_sort] at H2
    obtain ⟨ts, hts⟩ : ∃ ts, sortI (tgtL l) = ts := ⟨_, rfl⟩
    rw [hts] at H1 H2
    have HB : Hid (∀ x p q, IntsAt x p ts → IntsAt x q ts → Calls Tryz.prog 20 #[p, q] x fun e w' => e = .returned (.bool true) ∧ Up x w') := Lib.hid (fun x p q hp hq => by
      have := base_Ints p q ts ts x hp hq
      rw [decide_eq_true (rfl : ts = ts)] at this
      exact this)
    have H3 := Lib.hid (fun x (hx : Up W x) => isa_Relocate (.slice a n cap) l c x (HVK.out.up hx) hl (hI.up hx))
    have H4 := Lib.hid (fun x (hx : Up W x) => r47_Relocate (.slice a n cap) l c x (HVK.out.up hx) hl)
    obtain ⟨m, hm⟩ : ∃ m, l.map (relI c) = m := ⟨_, rfl⟩
    have hml : m.length ≤ 100000 := by rw [← hm, List.length_map]; exact hl
    rw [hm] at H3 H4
    have HS : Hid (∀ x p q, InsAt x p m → InsAt x q m → Calls Tryz.prog 18 #[p, q] x fun e w' => e = .returned (.bool true) ∧ Up x w') := Lib.hid (fun x p q hp hq => by
      have := law_same p q m m x hp hq hml hml
      rw [decide_eq_true (rfl : m = m)] at this
      exact this)
    clear hn w0 w1 hR hFt hI hW hl hts hm hml
    go_wp2_with (first
      | (go_at_call 9; refine (HEX.out _ HU6.out).mono ?_; rintro e ze ⟨rfl, hze⟩)
      | (go_at_call 18; refine (HS.out _ _ _ (HM1.out.up HX5.out) HM2.out).mono ?_; rintro e z6 ⟨rfl, hz⟩; have HU6 := Lib.hid (HU5.out.trans hz); clear hz)
      | (go_at_call 24; refine (H4.out _ HU4.out).mono ?_; rintro e z5 ⟨v4, rfl, hz, hm2⟩; have HU5 := Lib.hid (HU4.out.trans hz); have HX5 := Lib.hid hz; have HM2 := Lib.hid hm2; clear hz hm2)
      | (go_at_call 23; refine (H3.out _ HU3.out).mono ?_; rintro e z4 ⟨v3, rfl, hz, hm1⟩; have HU4 := Lib.hid (HU3.out.trans hz); have HM1 := Lib.hid hm1; clear hz hm1)
      | (go_at_call 20; refine (HB.out _ _ _ (HI1.out.up' HX2.out) HI2.out).mono ?_; rintro e z3 ⟨rfl, hz⟩; have HU3 := Lib.hid (HU2.out.trans hz); clear hz)
      | (go_at_call 22; refine (H2.out _ HU1.out).mono ?_; rintro e z2 ⟨v2, rfl, hz, hi2⟩; have HU2 := Lib.hid (HU1.out.trans hz); have HX2 := Lib.hid hz; have HI2 := Lib.hid hi2; clear hz hi2)
      | (go_at_call 21; refine H1.out.mono ?_; rintro e z1 ⟨v1, rfl, hz, hi1⟩; have HU1 := Lib.hid hz; have HI1 := Lib.hid hi1; clear hz hi1))
    go_ret
    exact ⟨rfl, HU6.out.trans hze⟩
end Go.Proofs.YtlglfdhiopnglaaGreatDoor.isaTargets
