/-
  ConstraintCombineSound: the walk of the law.
-/
import Derived.Test.YtahlecmlhdikjaaDoorCoCw
import Derived.Test.YtahlecmlhdikjaaDoorLinDg
import Derived.Test.YtahlecmlhdikjaaDoorCoX
import Derived.Test.YtahlecmlhdikjaaDoorGi
import Derived.Test.YtahlecmlhdikjaaDoorGb
namespace Go.Proofs.YtahlecmlhdikjaaDoor.constraintCombineSound
open Go.ChangeShapes Go.WideShapes Go.ChangeAt Go.RowKit
set_option linter.unusedVariables false
set_option linter.unusedSimpArgs false

set_option maxHeartbeats 8000000 in
set_option maxRecDepth 100000 in
theorem walk (W : World) {v bv v' : Value} {cs : List Con} {bs : List Int} {env : List Mono} (w0 : ConsAt W v cs) (wb : IntsAt W bv bs) (w1 : MonosArg W v' env) :
    Calls Tryd.prog 11 #[v, bv, v'] W fun e w' => e = .returned (.bool true) ∧ Up W w' := by
  obtain ⟨he, hen, -, -⟩ := w1
  have HE := Lib.hid he
  have HB := Lib.hid wb
  obtain ⟨⟨a, cap, rfl⟩, hmax⟩ := w0.slice
  obtain ⟨a', cap', rfl⟩ := he.slice
  obtain ⟨n, hn⟩ : ∃ n, cs.length = n := ⟨_, rfl⟩
  obtain ⟨n', hn'⟩ : ∃ n', env.length = n' := ⟨_, rfl⟩
  rw [hn'] at HE ⊢
  rw [hn] at hmax ⊢
  have HV : Hid (ConsAt W (.slice a n cap) cs) := Lib.hid (by rw [← hn]; exact w0)
  obtain ⟨q, hq⟩ : ∃ q, smallC cs 60 = q := ⟨_, rfl⟩
  have HSM : Hid (∀ x, ConsAt x (.slice a n cap) cs → Calls Tryd.prog 13 #[.slice a n cap, .int .i64 60] x fun e w' => e = .returned (.bool q) ∧ Up x w') := Lib.hid fun x hx => by
    rw [← hq]; exact law_Small _ _ 60 _ hx (by omega)
  have HLEN : Hid (q = true → (∀ c ∈ cs, c.2.1.length ≤ 40) ∧ cs.length ≤ 60) := Lib.hid fun h => by
    rw [h] at hq
    unfold smallC smallK at hq
    simp only [Bool.and_eq_true, decide_eq_true_eq, List.all_eq_true] at hq
    exact ⟨fun c hc => (hq.2 c hc).1, hq.1⟩
  have HEX : Hid (∀ x, Calls Tryd.prog 14 #[] x fun e w' => e = .returned (.bool true) ∧ Up x w') := Lib.hid law_examples
  have hcs := comb_sound (env := env) (cs := cs) (bs := bs)
  have hfa := first_all env cs 0
  obtain ⟨⟨⟨Kc, lc, ec⟩, er⟩, hr⟩ : ∃ r, combF cs bs = r := ⟨_, rfl⟩
  obtain ⟨⟨m, f⟩, hm⟩ : ∃ r, firstF env cs 0 = r := ⟨_, rfl⟩
  obtain ⟨⟨o, g⟩, ho⟩ : ∃ r, holdsF (Kc, lc, ec) env = r := ⟨_, rfl⟩
  have HCO : Hid ((∀ c ∈ cs, c.2.1.length ≤ 40) ∧ cs.length ≤ 60 → ∀ x, ConsAt x (.slice a n cap) cs → IntsAt x bv bs → Calls Tryd.prog 29 #[.slice a n cap, bv] x (CmbR x ((Kc, lc, ec), er))) := Lib.hid fun hl x h h' => hr ▸ con_Combine _ _ cs bs x h h' hl.1 hl.2
  have HFV : Hid ((∀ c ∈ cs, c.2.1.length ≤ 40) → ∀ x, ConsAt x (.slice a n cap) cs → MonosAt x (.slice a' n' cap') env → Calls Tryd.prog 25 #[.slice a n cap, .slice a' n' cap'] x fun e w' => e = .returned (.tuple #[.int .i64 m, .int .i64 f]) ∧ Up x w') := Lib.hid fun hl x h h' => by
    have := r06_FirstViolated _ _ cs env x h h' hen (fun c hc => Nat.le_trans (hl c hc) (by omega))
    rw [hm] at this; exact this
  have HKC : Hid ((∀ c ∈ cs, c.2.1.length ≤ 40) ∧ cs.length ≤ 60 → In64 Kc ∧ lc.length ≤ 2400) := Lib.hid fun h => by
    have := combF_bounds cs bs h.1
    rw [hr] at this
    exact ⟨this.1, by have := this.2; have := h.2; dsimp only at *; omega⟩
  have HHO : Hid (In64 Kc ∧ lc.length ≤ 2400 → ∀ x v, Part x v lc → MonosAt x (.slice a' n' cap') env → Calls Tryd.prog 19 #[.agg #[.int .i64 Kc, v, .bool ec], .slice a' n' cap'] x (HoldsR x (o, g))) := Lib.hid fun hb x v h h' => ho ▸ r06_HoldsG Kc v _ lc env ec x h.1 h' hb.1 h.2.1 hen (by have := hb.2; omega)
  have HSO : Hid (er = 0 → f = 0 → ¬ m < (n : Int) → g = 0 → o = true) := Lib.hid fun h1 h2 h3 h4 => by
    rw [hm, hn] at hfa
    rw [hr] at hcs
    dsimp only at hfa hcs
    rw [ho] at hcs
    exact hcs (hfa h2 (by omega)) h1 h4
  have early : ∀ {x : World}, Hid (Up W x) → Calls Tryd.prog 14 #[] x fun e w' => e = .returned (.bool true) ∧ Up W w' := fun hU => (HEX.out _).mono fun e w' h => ⟨h.1, hU.out.trans h.2⟩
  clear hn hn' hr hq he hen w0 wb hcs hfa hm ho
  go_enter Tryd.func11, Tryd.ntmps11
  go_wp2_with fail
  refine (HSM.out _ HV.out).mono ?_
  rintro e x1 ⟨rfl, hx1⟩
  have HU1 := Lib.hid hx1
  clear hx1
  cases q
  · go_wp2_with fail
    refine (early HU1).mono ?_
    rintro e x2 ⟨rfl, hx2⟩
    go_wp2
    go_ret
    exact ⟨rfl, hx2⟩
  have HL := Lib.hid (HLEN.out rfl)
  by_cases hbig : 100 < n'
  · have hbI : (100 : Int) < n' := by omega
    go_wp2_with fail
    refine (early HU1).mono ?_
    rintro e x2 ⟨rfl, hx2⟩
    go_wp2
    go_ret
    exact ⟨rfl, hx2⟩
  have hbI : ¬ (100 : Int) < n' := by omega
  clear hbig
  go_wp2_with fail
  refine (HCO.out HL.out _ (HV.out.up HU1.out) (HB.out.up HU1.out)).mono ?_
  rintro e x2 ⟨⟨v1, rfl, hv1⟩, hx2⟩
  dsimp only at hv1
  have HU2 := Lib.hid (HU1.out.trans hx2)
  have HV1 := Lib.hid hv1
  obtain ⟨va, vcap, rfl⟩ := hv1.1.slice
  obtain ⟨nl, hnl⟩ : ∃ n, lc.length = n := ⟨_, rfl⟩
  rw [hnl] at HV1 ⊢
  clear hx2 HU1 hv1 hnl
  go_wp2_with fail
  refine (HFV.out HL.out.1 _ (HV.out.up (HU2.out.alloc _)) (HE.out.up (HU2.out.alloc _))).mono ?_
  rintro e x3 ⟨rfl, hx3⟩
  have b0 : x3.cell? ⟨x2.heap.size, 0, none⟩ = some (.int .i64 Kc) := (hx3.cell _ _ (by rw [size_alloc]; omega)).trans (by go_simp)
  have b1 : x3.cell? ⟨x2.heap.size, 1, none⟩ = some (.slice va nl vcap) := (hx3.cell _ _ (by rw [size_alloc]; omega)).trans (by go_simp)
  have b2 : x3.cell? ⟨x2.heap.size, 2, none⟩ = some (.bool ec) := (hx3.cell _ _ (by rw [size_alloc]; omega)).trans (by go_simp)
  have HU3 := Lib.hid ((HU2.out.alloc (.cells #[.int .i64 Kc, .slice va nl vcap, .bool ec] 26)).trans hx3)
  have HV3 := Lib.hid (HV1.out.up (((Up.refl x2).alloc (.cells #[.int .i64 Kc, .slice va nl vcap, .bool ec] 26)).trans hx3))
  clear hx3 HU2 HV1
  by_cases her : er = 0
  · subst her
    by_cases hf : f = 0
    · subst hf
      by_cases hmn : m < (n : Int)
      · go_wp2_with fail
        refine (early HU3).mono ?_
        rintro e x5 ⟨rfl, hx5⟩
        go_wp2
        go_ret
        exact ⟨rfl, hx5⟩
      · have HS2 : Hid (g = 0 → o = true) := Lib.hid (HSO.out (by simp) (by simp) (by omega))
        go_wp2_with fail
        refine (HHO.out (HKC.out HL.out) _ _ HV3.out (HE.out.up HU3.out)).mono ?_
        rintro e x4 ⟨rfl, hx4⟩
        have HU4 := Lib.hid (HU3.out.trans hx4)
        clear hx4 HU3
        by_cases hg : g = 0
        · obtain rfl := HS2.out hg
          subst hg
          go_wp2_with fail
          refine (early HU4).mono ?_
          rintro e x5 ⟨rfl, hx5⟩
          go_wp2
          go_ret
          exact ⟨rfl, hx5⟩
        · have hg2 : (g == 0) = false := by simpa using hg
          go_wp2_with fail
          refine (early HU4).mono ?_
          rintro e x5 ⟨rfl, hx5⟩
          go_wp2
          go_ret
          exact ⟨rfl, hx5⟩
    · have hf2 : (f == 0) = false := by simpa using hf
      go_wp2_with fail
      refine (early HU3).mono ?_
      rintro e x5 ⟨rfl, hx5⟩
      go_wp2
      go_ret
      exact ⟨rfl, hx5⟩
  · have he2 : (er == 0) = false := by simpa using her
    go_wp2_with fail
    refine (early HU3).mono ?_
    rintro e x5 ⟨rfl, hx5⟩
    go_wp2
    go_ret
    exact ⟨rfl, hx5⟩
end Go.Proofs.YtahlecmlhdikjaaDoor.constraintCombineSound
