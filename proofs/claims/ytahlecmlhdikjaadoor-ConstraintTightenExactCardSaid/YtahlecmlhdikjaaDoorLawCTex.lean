/-
  ConstraintTightenExact: the walk of the law.
-/
import Derived.Test.YtahlecmlhdikjaaDoorCoTe
import Derived.Test.YtahlecmlhdikjaaDoorCoT
import Derived.Test.YtahlecmlhdikjaaDoorGe
import Derived.Test.YtahlecmlhdikjaaDoorCoX
import Derived.Test.YtahlecmlhdikjaaDoorGi
import Derived.Test.YtahlecmlhdikjaaDoorCoR
namespace Go.Proofs.YtahlecmlhdikjaaDoor.constraintTightenExact
open Go.ChangeShapes Go.WideShapes Go.ChangeAt Go.RowKit
set_option linter.unusedVariables false
set_option linter.unusedSimpArgs false

set_option maxHeartbeats 8000000 in
set_option maxRecDepth 100000 in
theorem walk (W : World) {v v' : Value} {c : Con} {env : List Mono} (w0 : ConArg W v c) (w1 : MonosArg W v' env) :
    Calls Tryd.prog 4 #[v, v'] W fun e w' => e = .returned (.bool true) ∧ Up W w' := by
  obtain ⟨K, l, b⟩ := c
  obtain ⟨lv, rfl, hp, hK⟩ := w0
  obtain ⟨he, hen, -, -⟩ := w1
  dsimp only at hp hK ⊢
  have HP := Lib.hid hp
  have HE := Lib.hid he
  obtain ⟨a', cap', rfl⟩ := he.slice
  obtain ⟨n', hn'⟩ : ∃ n', env.length = n' := ⟨_, rfl⟩
  rw [hn'] at HE ⊢
  have hlen := tight_len (K, l, b)
  have herr := tight_err (K, l, b)
  have hex := tight_exact (K, l, b) env
  obtain ⟨r, hr⟩ : ∃ r, tightF (K, l, b) = r := ⟨_, rfl⟩
  rw [hr] at hlen herr hex
  obtain ⟨q, hq⟩ : ∃ q, smallC [(K, l, b)] 1 = q := ⟨_, rfl⟩
  have HSM : Hid (∀ x n, Up W x → x.heap.size = n → Calls Tryd.prog 13 #[.slice (some ⟨n, 0, none⟩) 1 1, .int .i64 1] (x.alloc (.cells #[.int .i64 K, lv, .bool b] 26)) fun e w' => e = .returned (.bool q) ∧ Up (x.alloc (.cells #[.int .i64 K, lv, .bool b] 26)) w') := Lib.hid fun x n hx hn => by
    subst hn
    rw [← hq]; exact law_Small _ _ 1 _ (cons_one _ (hp.up hx) hK) (by omega)
  have HLEN : Hid (q = true → l.length ≤ 1000) := Lib.hid fun h => by
    rw [h] at hq
    unfold smallC smallK at hq
    simp at hq
    omega
  have HTI : Hid (l.length ≤ 1000 → ∀ x, Part x lv l → Calls Tryd.prog 15 #[.agg #[.int .i64 K, lv, .bool b]] x (TightR x r)) := Lib.hid fun h x hx => hr ▸ con_Tighten K lv l b x hx hK h
  have HHO : Hid (∀ c : Con, c.2.1.length ≤ 1000 → In64 c.1 → ∀ x v, Part x v c.2.1 → MonosAt x (.slice a' n' cap') env → Calls Tryd.prog 19 #[.agg #[.int .i64 c.1, v, .bool c.2.2], .slice a' n' cap'] x (HoldsR x (holdsF c env))) := Lib.hid fun c h1 h2 x v h3 h4 => r06_Holds c.1 v _ c.2.1 env c.2.2 x h3.1 h4 h2 h3.2.1 hen h1
  obtain ⟨g, hgg⟩ : ∃ g, errOf (okL l) = g := ⟨_, rfl⟩
  have HVA : Hid (∀ w, MonosAt w lv l → Calls Tryd.prog 18 #[.agg #[.int .i64 K, lv, .bool b]] w fun e w' => e = .returned (.int .i64 g) ∧ Up w w') := Lib.hid fun w h => by
    rw [← hgg]; exact con_Validate K _ l b w h
  have HEX : Hid (∀ x, Calls Tryd.prog 14 #[] x fun e w' => e = .returned (.bool true) ∧ Up x w') := Lib.hid law_examples
  have HKK := Lib.hid hK
  obtain ⟨⟨K', l', b'⟩, kind, er⟩ := r
  have HKR : Hid (In64 K') := Lib.hid (by have := tight_in (K, l, b) hK (by exact hp.2.1); rw [hr] at this; exact this)
  dsimp only at hlen herr hex
  have HER : Hid (er = 0 ∨ er = 3 ∨ (er = 1 ∧ g = 1)) := Lib.hid (by
    rcases herr with h | h | ⟨h, h'⟩
    · exact .inl h
    · exact .inr (.inl h)
    · refine .inr (.inr ⟨h, ?_⟩)
      rw [← hgg, h']; rfl)
  obtain ⟨⟨o, f⟩, hof⟩ : ∃ z, holdsF (K, l, b) env = z := ⟨_, rfl⟩
  obtain ⟨⟨o', f'⟩, hof'⟩ : ∃ z, holdsF (K', l', b') env = z := ⟨_, rfl⟩
  have HH1 : Hid (l.length ≤ 1000 → ∀ x, Part x lv l → MonosAt x (.slice a' n' cap') env → Calls Tryd.prog 19 #[.agg #[.int .i64 K, lv, .bool b], .slice a' n' cap'] x (HoldsR x (o, f))) := Lib.hid fun hl x h1 h2 => hof ▸ HHO.out (K, l, b) hl HKK.out x lv h1 h2
  have HH2 : Hid (l.length ≤ 1000 → ∀ x v, Part x v l' → MonosAt x (.slice a' n' cap') env → Calls Tryd.prog 19 #[.agg #[.int .i64 K', v, .bool b'], .slice a' n' cap'] x (HoldsR x (o', f'))) := Lib.hid fun hl x v h1 h2 => hof' ▸ HHO.out (K', l', b') (Nat.le_trans hlen hl) HKR.out x v h1 h2
  rw [hof, hof'] at hex
  have HXX : Hid (er = 0 → f = 0 → f' = 0 → tightLaw o o' kind) := Lib.hid hex
  clear hp hK hr hq he hen hn' hlen herr hex hgg hof hof' HHO HKR HKK
  go_enter Tryd.func4, Tryd.ntmps4
  go_wp2_with fail
  refine (HSM.out (W.alloc (.cells #[.int .i64 K, lv, .bool b] 26)) _ ((Up.refl W).alloc _) (size_alloc W _)).mono ?_
  rintro e x1 ⟨rfl, hx1⟩
  have hs := hx1.size
  rw [size_alloc, size_alloc] at hs
  have a0 : x1.cell? ⟨W.heap.size, 0, none⟩ = some (.int .i64 K) := (hx1.cell _ _ (by rw [size_alloc, size_alloc]; omega)).trans (by go_simp)
  have a1 : x1.cell? ⟨W.heap.size, 1, none⟩ = some lv := (hx1.cell _ _ (by rw [size_alloc, size_alloc]; omega)).trans (by go_simp)
  have a2 : x1.cell? ⟨W.heap.size, 2, none⟩ = some (.bool b) := (hx1.cell _ _ (by rw [size_alloc, size_alloc]; omega)).trans (by go_simp)
  have HU1 := Lib.hid ((((Up.refl W).alloc (.cells #[.int .i64 K, lv, .bool b] 26)).alloc _).trans hx1)
  clear hx1
  have q0 : W.heap.size < x1.heap.size := by omega
  clear hs
  have early : ∀ {x : World}, Hid (Up W x) → Calls Tryd.prog 14 #[] x fun e w' => e = .returned (.bool true) ∧ Up W w' := fun hU => (HEX.out _).mono fun e w' h => ⟨h.1, hU.out.trans h.2⟩
  cases q
  · go_wp2_with fail
    refine (early HU1).mono ?_
    rintro e x2 ⟨rfl, hx2⟩
    go_wp2
    go_ret
    exact ⟨rfl, hx2⟩
  have HL := Lib.hid (HLEN.out rfl)
  by_cases hbig : 100 < n'
  · have hbI : (100 : Int) < n' := by omega
    go_wp2_with fail
    refine (early HU1).mono ?_
    rintro e x2 ⟨rfl, hx2⟩
    go_wp2
    go_ret
    exact ⟨rfl, hx2⟩
  have hbI : ¬ (100 : Int) < n' := by omega
  clear hbig
  go_wp2_with fail
  refine (HTI.out HL.out _ (HP.out.up HU1.out)).mono ?_
  rintro e x2 ⟨⟨v1, rfl, hv1, -⟩, hx2⟩
  have a0' := (hx2.cell _ _ q0).trans a0
  have a1' := (hx2.cell _ _ q0).trans a1
  have a2' := (hx2.cell _ _ q0).trans a2
  have q0' : W.heap.size < x2.heap.size := Nat.lt_of_lt_of_le q0 hx2.size
  have HU2 := Lib.hid (HU1.out.trans hx2)
  dsimp only at hv1
  have HV1 := Lib.hid hv1
  obtain ⟨va, vcap, rfl⟩ := hv1.1.slice
  obtain ⟨nl, hnl⟩ : ∃ n, l'.length = n := ⟨_, rfl⟩
  rw [hnl] at HV1 ⊢
  clear a0 a1 a2 hx2 HU1 q0 hv1 hnl
  by_cases her : er = 0
  · subst her
    go_wp2_with fail
    refine (HH1.out HL.out _ (HP.out.up (HU2.out.alloc _)) (HE.out.up (HU2.out.alloc _))).mono ?_
    rintro e x3 ⟨rfl, hx3⟩
    have b0 : x3.cell? ⟨x2.heap.size, 0, none⟩ = some (.int .i64 K') := (hx3.cell _ _ (by rw [size_alloc]; omega)).trans (by go_simp)
    have b1 : x3.cell? ⟨x2.heap.size, 1, none⟩ = some (.slice va nl vcap) := (hx3.cell _ _ (by rw [size_alloc]; omega)).trans (by go_simp)
    have b2 : x3.cell? ⟨x2.heap.size, 2, none⟩ = some (.bool b') := (hx3.cell _ _ (by rw [size_alloc]; omega)).trans (by go_simp)
    have HU3 := Lib.hid ((HU2.out.alloc (.cells #[.int .i64 K', .slice va nl vcap, .bool b'] 26)).trans hx3)
    have HV3 := Lib.hid (HV1.out.up (((Up.refl x2).alloc (.cells #[.int .i64 K', .slice va nl vcap, .bool b'] 26)).trans hx3))
    clear hx3 HU2 HV1 a0' a1' a2' q0'
    go_wp2_with fail
    refine (HH2.out HL.out _ _ HV3.out (HE.out.up HU3.out)).mono ?_
    rintro e x4 ⟨rfl, hx4⟩
    have HU4 := Lib.hid (HU3.out.trans hx4)
    clear hx4 HU3
    by_cases hf : f = 0
    · subst hf
      by_cases hf' : f' = 0
      · subst hf'
        obtain ⟨rfl, h1, h2, h3, h4⟩ := HXX.out (by simp) (by simp) (by simp)
        rcases (by omega : kind = 0 ∨ kind = 1 ∨ kind = 2) with rfl | rfl | rfl
        · clear h1 h2 h3 h4
          go_wp2_with fail
          refine (early HU4).mono ?_
          rintro e x5 ⟨rfl, hx5⟩
          go_wp2
          go_ret
          exact ⟨rfl, hx5⟩
        · obtain rfl : o = true := by simpa using h1
          clear h1 h2 h3 h4
          go_wp2_with fail
          refine (early HU4).mono ?_
          rintro e x5 ⟨rfl, hx5⟩
          go_wp2
          go_ret
          exact ⟨rfl, hx5⟩
        · obtain rfl : o = false := by simpa using h2
          clear h1 h2 h3 h4
          go_wp2_with fail
          refine (early HU4).mono ?_
          rintro e x5 ⟨rfl, hx5⟩
          go_wp2
          go_ret
          exact ⟨rfl, hx5⟩
      · have hf2 : (f' == 0) = false := by simpa using hf'
        go_wp2_with fail
        refine (early HU4).mono ?_
        rintro e x5 ⟨rfl, hx5⟩
        go_wp2
        go_ret
        exact ⟨rfl, hx5⟩
    · have hf2 : (f == 0) = false := by simpa using hf
      go_wp2_with fail
      refine (early HU4).mono ?_
      rintro e x5 ⟨rfl, hx5⟩
      go_wp2
      go_ret
      exact ⟨rfl, hx5⟩
  · rcases HER.out.resolve_left her with rfl | ⟨rfl, rfl⟩
    · clear her
      go_wp2_with fail
      refine (early (Lib.hid (HU2.out.alloc _))).mono ?_
      rintro e x5 ⟨rfl, hx5⟩
      go_wp2
      go_ret
      exact ⟨rfl, hx5⟩
    · clear her
      go_wp2_with fail
      refine (HVA.out _ (HP.out.1.up (HU2.out.alloc _))).mono ?_
      rintro e x3 ⟨rfl, hx3⟩
      have HU3 := Lib.hid ((HU2.out.alloc _).trans hx3)
      clear hx3
      go_wp2_with fail
      refine (early HU3).mono ?_
      rintro e x5 ⟨rfl, hx5⟩
      go_wp2
      go_ret
      exact ⟨rfl, hx5⟩
end Go.Proofs.YtahlecmlhdikjaaDoor.constraintTightenExact
