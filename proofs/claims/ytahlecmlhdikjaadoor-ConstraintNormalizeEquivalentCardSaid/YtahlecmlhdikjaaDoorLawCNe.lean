/-
  ConstraintNormalizeEquivalent: the walk of the law.
-/
import Derived.Test.YtahlecmlhdikjaaDoorCoNq
import Derived.Test.YtahlecmlhdikjaaDoorCoNm
import Derived.Test.YtahlecmlhdikjaaDoorCoX
import Derived.Test.YtahlecmlhdikjaaDoorGi
import Derived.Test.YtahlecmlhdikjaaDoorCoR
import Derived.Test.YtahlecmlhdikjaaDoorGb
namespace Go.Proofs.YtahlecmlhdikjaaDoor.constraintNormalizeEquivalent
open Go.ChangeShapes Go.WideShapes Go.ChangeAt Go.RowKit
set_option linter.unusedVariables false
set_option linter.unusedSimpArgs false

set_option maxHeartbeats 8000000 in
set_option maxRecDepth 100000 in
theorem walk (W : World) {v v' : Value} {cs : List Con} {env : List Mono} (w0 : ConsAt W v cs) (w1 : MonosArg W v' env) :
    Calls Tryd.prog 8 #[v, v'] W fun e w' => e = .returned (.bool true) ∧ Up W w' := by
  obtain ⟨he, hen, -, -⟩ := w1
  have HE := Lib.hid he
  obtain ⟨⟨a, cap, rfl⟩, hmax⟩ := w0.slice
  obtain ⟨a', cap', rfl⟩ := he.slice
  obtain ⟨n, hn⟩ : ∃ n, cs.length = n := ⟨_, rfl⟩
  obtain ⟨n', hn'⟩ : ∃ n', env.length = n' := ⟨_, rfl⟩
  rw [hn'] at HE ⊢
  rw [hn] at hmax ⊢
  have HV : Hid (ConsAt W (.slice a n cap) cs) := Lib.hid (by rw [← hn]; exact w0)
  obtain ⟨q, hq⟩ : ∃ q, smallC cs 60 = q := ⟨_, rfl⟩
  have HSM : Hid (∀ x, ConsAt x (.slice a n cap) cs → Calls Tryd.prog 13 #[.slice a n cap, .int .i64 60] x fun e w' => e = .returned (.bool q) ∧ Up x w') := Lib.hid fun x hx => by
    rw [← hq]; exact law_Small _ _ 60 _ hx (by omega)
  have HLEN : Hid (q = true → (∀ c ∈ cs, c.2.1.length ≤ 40) ∧ cs.length ≤ 60) := Lib.hid fun h => by
    rw [h] at hq
    unfold smallC smallK at hq
    simp only [Bool.and_eq_true, decide_eq_true_eq, List.all_eq_true] at hq
    exact ⟨fun c hc => (hq.2 c hc).1, hq.1⟩
  have HEX : Hid (∀ x, Calls Tryd.prog 14 #[] x fun e w' => e = .returned (.bool true) ∧ Up x w') := Lib.hid law_examples
  have hlaw := norm_law cs env
  have hidm := norm_idem cs
  have hfit := norm_fit cs 40
  have herr := norm_err cs
  obtain ⟨⟨nl, ok, er⟩, hr⟩ : ∃ r, normF cs = r := ⟨_, rfl⟩
  rw [hr] at hlaw hidm hfit herr
  dsimp only at hlaw hidm hfit herr
  obtain ⟨⟨i1, f1⟩, hi1⟩ : ∃ r, firstF env cs 0 = r := ⟨_, rfl⟩
  obtain ⟨⟨k1, h1⟩, hk1⟩ : ∃ r, firstF env nl 0 = r := ⟨_, rfl⟩
  obtain ⟨m, hm⟩ : ∃ m, nl.length = m := ⟨_, rfl⟩
  have HNO : Hid ((∀ c ∈ cs, c.2.1.length ≤ 40) ∧ cs.length ≤ 60 → ∀ x, ConsAt x (.slice a n cap) cs → Calls Tryd.prog 23 #[.slice a n cap] x (NormR x (nl, ok, er))) := Lib.hid fun hl x h => hr ▸ con_Normalize _ cs x h (by omega) (fun c hc => Nat.le_trans (hl.1 c hc) (by omega))
  have HN2 : Hid ((∀ c ∈ cs, c.2.1.length ≤ 40) ∧ cs.length ≤ 60 → ok = true → ∀ x v, ConsAt x v nl → Calls Tryd.prog 23 #[v] x (NormR x (nl, true, 0))) := Lib.hid fun hl hok x v h => by
    have hf := hfit hl.1
    have := con_Normalize v nl x h (by omega) (fun c hc => Nat.le_trans (hf.1 c hc) (by omega))
    rw [hidm hok] at this; exact this
  have HFV : Hid ((∀ c ∈ cs, c.2.1.length ≤ 40) → ∀ x, ConsAt x (.slice a n cap) cs → MonosAt x (.slice a' n' cap') env → Calls Tryd.prog 25 #[.slice a n cap, .slice a' n' cap'] x fun e w' => e = .returned (.tuple #[.int .i64 i1, .int .i64 f1]) ∧ Up x w') := Lib.hid fun hl x h h' => by
    have := r06_FirstViolated _ _ cs env x h h' hen (fun c hc => Nat.le_trans (hl c hc) (by omega))
    rw [hi1] at this; exact this
  have HFN : Hid ((∀ c ∈ cs, c.2.1.length ≤ 40) → ∀ x v, ConsAt x v nl → MonosAt x (.slice a' n' cap') env → Calls Tryd.prog 25 #[v, .slice a' n' cap'] x fun e w' => e = .returned (.tuple #[.int .i64 k1, .int .i64 h1]) ∧ Up x w') := Lib.hid fun hl x v h h' => by
    have := r06_FirstViolated _ _ nl env x h h' hen (fun c hc => Nat.le_trans ((hfit hl).1 c hc) (by omega))
    rw [hk1] at this; exact this
  have HCO : Hid (∀ x v v', ConsAt x v nl → ConsAt x v' nl → Calls Tryd.prog 22 #[v, v'] x fun e w' => e = .returned (.bool true) ∧ Up x w') := Lib.hid fun x v v' h h' => (by unfold consEq; exact decide_eq_true rfl : consEq nl nl = true) ▸ base_Cons v v' nl nl x h h'
  have HERR : Hid (er ≠ 0 → m = 0 ∧ ok = false) := Lib.hid fun h => by
    obtain ⟨g1, g2⟩ := herr h
    exact ⟨by rw [← hm, g1]; rfl, g2⟩
  have HNK : Hid (f1 = 0 → er = 0 → ok = false → m = 0 ∧ i1 < (n : Int)) := Lib.hid fun g1 g2 g3 => by
    obtain ⟨g4, g5⟩ := (hlaw i1 (by rw [hi1, g1]) g2).1 g3
    exact ⟨by rw [← hm, g4]; rfl, by omega⟩
  have HOK : Hid (f1 = 0 → er = 0 → ok = true → h1 = 0 → (i1 = (n : Int) ↔ k1 = (m : Int))) := Lib.hid fun g1 g2 g3 g4 => by
    have := (hlaw i1 (by rw [hi1, g1]) g2).2 g3 k1 (by rw [hk1, g4])
    rw [hn, hm] at this; exact this
  have HM := Lib.hid hm
  clear hn hn' hr hq he hen w0 hlaw hidm hfit herr hi1 hk1 hm
  have early : ∀ {x : World}, Hid (Up W x) → Calls Tryd.prog 14 #[] x fun e w' => e = .returned (.bool true) ∧ Up W w' := fun hU => (HEX.out _).mono fun e w' h => ⟨h.1, hU.out.trans h.2⟩
  go_enter Tryd.func8, Tryd.ntmps8
  go_wp2_with fail
  refine (HSM.out _ HV.out).mono ?_
  rintro e x1 ⟨rfl, hx1⟩
  have HU1 := Lib.hid hx1
  clear hx1
  cases q
  · go_wp2_with fail
    refine (early HU1).mono ?_
    rintro e x2 ⟨rfl, hx2⟩
    go_wp2
    go_ret
    exact ⟨rfl, hx2⟩
  have HL := Lib.hid (HLEN.out rfl)
  by_cases hbig : 100 < n'
  · have hbI : (100 : Int) < n' := by omega
    go_wp2_with fail
    refine (early HU1).mono ?_
    rintro e x2 ⟨rfl, hx2⟩
    go_wp2
    go_ret
    exact ⟨rfl, hx2⟩
  have hbI : ¬ (100 : Int) < n' := by omega
  clear hbig
  go_wp2_with fail
  refine (HNO.out HL.out _ (HV.out.up HU1.out)).mono ?_
  rintro e x2 ⟨⟨v1, rfl, hv1⟩, hx2⟩
  dsimp only at hv1
  have HU2 := Lib.hid (HU1.out.trans hx2)
  have HV1 := Lib.hid hv1
  obtain ⟨⟨va, vcap, rfl⟩, hm1⟩ := hv1.slice
  rw [HM.out] at HV1 hm1 ⊢
  clear hx2 HU1 hv1
  by_cases her : er = 0
  · subst her
    go_wp2_with fail
    refine (HFV.out HL.out.1 _ (HV.out.up HU2.out) (HE.out.up HU2.out)).mono ?_
    rintro e x3 ⟨rfl, hx3⟩
    have HU3 := Lib.hid (HU2.out.trans hx3)
    have HV3 := Lib.hid (HV1.out.up hx3)
    clear hx3 HU2 HV1
    by_cases hf : f1 = 0
    · subst hf
      cases ok
      · obtain ⟨hm0, hlt⟩ := HNK.out (by simp) (by simp) (by first | rfl | trivial)
        subst hm0
        go_wp2_with fail
        refine (early HU3).mono ?_
        rintro e x5 ⟨rfl, hx5⟩
        go_wp2
        go_ret
        exact ⟨rfl, hx5⟩
      · go_wp2_with fail
        refine (HN2.out HL.out (by first | rfl | trivial) _ _ HV3.out).mono ?_
        rintro e x4 ⟨⟨v2, rfl, hv2⟩, hx4⟩
        dsimp only at hv2
        have HU4 := Lib.hid (HU3.out.trans hx4)
        have HV4 := Lib.hid (HV3.out.up hx4)
        have HV5 := Lib.hid hv2
        clear hx4 HU3 HV3 hv2
        go_wp2_with fail
        refine (HCO.out _ _ _ HV5.out HV4.out).mono ?_
        rintro e x6 ⟨rfl, hx6⟩
        have HU6 := Lib.hid (HU4.out.trans hx6)
        have HV6 := Lib.hid (HV4.out.up hx6)
        clear hx6 HU4 HV4 HV5
        go_wp2_with fail
        refine (HFN.out HL.out.1 _ _ HV6.out (HE.out.up HU6.out)).mono ?_
        rintro e x7 ⟨rfl, hx7⟩
        have HU7 := Lib.hid (HU6.out.trans hx7)
        clear hx7 HU6 HV6
        by_cases hh : h1 = 0
        · have HIK := Lib.hid (HOK.out (by simp) (by simp) (by first | rfl | trivial) hh)
          subst hh
          by_cases hi : i1 = (n : Int)
          · have hi2 : (i1 == (n : Int)) = true := by simpa using hi
            have hk2 : (k1 == (m : Int)) = true := by simpa using HIK.out.1 hi
            clear hi
            go_wp2_with fail
            refine (early HU7).mono ?_
            rintro e x5 ⟨rfl, hx5⟩
            go_wp2
            go_ret
            exact ⟨rfl, hx5⟩
          · have hi2 : (i1 == (n : Int)) = false := by simpa using hi
            have hk2 : (k1 == (m : Int)) = false := by simpa using fun h => hi (HIK.out.2 h)
            clear hi
            go_wp2_with fail
            refine (early HU7).mono ?_
            rintro e x5 ⟨rfl, hx5⟩
            go_wp2
            go_ret
            exact ⟨rfl, hx5⟩
        · have hh2 : (h1 == 0) = false := by simpa using hh
          go_wp2_with fail
          refine (early HU7).mono ?_
          rintro e x5 ⟨rfl, hx5⟩
          go_wp2
          go_ret
          exact ⟨rfl, hx5⟩
    · have hf2 : (f1 == 0) = false := by simpa using hf
      go_wp2_with fail
      refine (early HU3).mono ?_
      rintro e x5 ⟨rfl, hx5⟩
      go_wp2
      go_ret
      exact ⟨rfl, hx5⟩
  · have he2 : (er == 0) = false := by simpa using her
    obtain ⟨hm0, rfl⟩ := HERR.out her
    subst hm0
    go_wp2_with fail
    refine (early HU2).mono ?_
    rintro e x5 ⟨rfl, hx5⟩
    go_wp2
    go_ret
    exact ⟨rfl, hx5⟩
end Go.Proofs.YtahlecmlhdikjaaDoor.constraintNormalizeEquivalent
