/-
  LinCompares: the walk of the law.
-/
import Derived.Test.YtpclbgaaoednnaaLinC2
namespace Go.Proofs.Ytpclbgaaoednnaa.linCompares
open Go.ChangeShapes Go.WideShapes Go.ChangeAt Go.RowKit
set_option linter.unusedVariables false
set_option linter.unusedSimpArgs false

theorem order_neg (a b : Int) : orderF b a = -orderF a b := by unfold orderF; split <;> split <;> omega
theorem order_zero (a b : Int) : orderF a b = 0 ↔ a = b := by unfold orderF; split <;> (try split) <;> omega
theorem order_bd (a b : Int) : -1 ≤ orderF a b ∧ orderF a b ≤ 1 := by unfold orderF; split <;> (try split) <;> omega
theorem cb_self : ∀ x : List UInt8, Lib.compareBytes x x = 0
  | [] => rfl
  | a :: x => by unfold Lib.compareBytes; rw [if_neg (u8_irrefl _), if_neg (u8_irrefl _), cb_self x]
theorem cb_cases (x y : List UInt8) : (Lib.compareBytes x y = -1 ∧ Lib.compareBytes y x = 1) ∨ (Lib.compareBytes x y = 1 ∧ Lib.compareBytes y x = -1) ∨ x = y := by
  cases h : Op.bytesLess x y
  · cases g : Op.bytesLess y x
    · exact Or.inr (Or.inr (bl_total x y h g))
    · exact Or.inr (Or.inl ⟨cb_more x y g, cb_less y x g⟩)
  · exact Or.inl ⟨cb_less x y h, cb_more y x h⟩
theorem cmpM_facts (m m' : Mono) : cmpM m' m = -cmpM m m' ∧ (cmpM m m' = 0 ↔ m = m') ∧ -1 ≤ cmpM m m' ∧ cmpM m m' ≤ 1 := by
  obtain ⟨s, b⟩ := m
  obtain ⟨s', b'⟩ := m'
  unfold cmpM
  by_cases h : s = s'
  · subst h
    simp only [if_true]
    refine ⟨order_neg b b', ?_, order_bd b b'⟩
    rw [order_zero]
    constructor
    · rintro rfl; rfl
    · intro e; cases e; rfl
  · have h' : ¬ s' = s := fun e => h e.symm
    simp only [h, h', if_false]
    rcases cb_cases s.toList s'.toList with ⟨h1, h2⟩ | ⟨h1, h2⟩ | h1
    · rw [h1, h2]
      exact ⟨rfl, ⟨fun e => by omega, fun e => by cases e; exact absurd rfl h⟩, by omega, by omega⟩
    · rw [h1, h2]
      exact ⟨rfl, ⟨fun e => by omega, fun e => by cases e; exact absurd rfl h⟩, by omega, by omega⟩
    · exact absurd (toList_inj h1) h
theorem cmpL_facts : ∀ l l' : List Mono, cmpL l' l = -cmpL l l' ∧ (cmpL l l' = 0 ↔ l = l') ∧ -1 ≤ cmpL l l' ∧ cmpL l l' ≤ 1
  | [], [] => ⟨rfl, by simp [cmpL], by decide, by decide⟩
  | [], _ :: _ => ⟨rfl, by simp [cmpL], by simp [cmpL], by simp [cmpL]⟩
  | _ :: _, [] => ⟨rfl, by simp [cmpL], by simp [cmpL], by simp [cmpL]⟩
  | m :: r, m' :: r' => by
    obtain ⟨h1, h2, h3, h4⟩ := cmpM_facts m m'
    obtain ⟨i1, i2, i3, i4⟩ := cmpL_facts r r'
    show (if cmpM m' m ≠ 0 then cmpM m' m else cmpL r' r) = -(if cmpM m m' ≠ 0 then cmpM m m' else cmpL r r') ∧ ((if cmpM m m' ≠ 0 then cmpM m m' else cmpL r r') = 0 ↔ _) ∧ -1 ≤ (if cmpM m m' ≠ 0 then cmpM m m' else cmpL r r') ∧ (if cmpM m m' ≠ 0 then cmpM m m' else cmpL r r') ≤ 1
    by_cases h : cmpM m m' = 0
    · have h' : cmpM m' m = 0 := by omega
      rw [h, h']
      simp only [ne_eq, not_true_eq_false, if_false]
      refine ⟨i1, ?_, i3, i4⟩
      rw [i2, h2.1 h]; simp
    · have h' : ¬ cmpM m' m = 0 := by omega
      simp only [ne_eq, h, h', not_false_eq_true, if_true]
      refine ⟨h1, ⟨fun e => e.elim, fun e => ?_⟩, h3, h4⟩
      have : m = m' := by injection e
      exact absurd (h2.2 this) h
theorem comp_facts (K K' : Int) (l l' : List Mono) : compareF K' l' K l = -compareF K l K' l' ∧ eqForm K K' l l' = decide (compareF K l K' l' = 0) ∧ -1 ≤ compareF K l K' l' ∧ compareF K l K' l' ≤ 1 := by
  obtain ⟨i1, i2, i3, i4⟩ := cmpL_facts l l'
  have o1 := order_neg K K'
  have o2 := order_zero K K'
  have o3 := order_bd K K'
  unfold compareF eqForm eqM
  by_cases h : cmpL l l' = 0
  · have h' : cmpL l' l = 0 := by omega
    simp only [ne_eq, h, h', not_true_eq_false, if_false]
    refine ⟨o1, ?_, o3.1, o3.2⟩
    rw [decide_eq_true (i2.1 h), Bool.and_true]
    exact decide_eq_decide.2 o2.symm
  · have h' : ¬ cmpL l' l = 0 := by omega
    simp only [ne_eq, h, h', not_false_eq_true, if_true]
    refine ⟨i1, ?_, i3, i4⟩
    rw [decide_eq_false (fun e => h (i2.2 e)), Bool.and_false]
    first | rfl | exact (decide_eq_false h).symm

set_option maxHeartbeats 4000000 in
theorem walk (W : World) {v v' : Value} {x x' : Int × List Mono} (w0 : LinArg W v x.1 x.2) (w1 : LinArg W v' x'.1 x'.2) :
    Calls Try.prog 7 #[v, v'] W fun e w' => e = .returned (.bool true) ∧ Up W w' := by
  obtain ⟨K, l⟩ := x
  obtain ⟨K', l'⟩ := x'
  obtain ⟨lv, rfl, ⟨hm, hrg, hsz, hcp⟩, hK⟩ := w0
  obtain ⟨lv', rfl, ⟨hm', hrg', hsz', hcp'⟩, hK'⟩ := w1
  dsimp only at hm hm' hK hK'
  have HA := Lib.hid hm
  have HB := Lib.hid hm'
  obtain ⟨qa, hqa⟩ : ∃ q, smallB l = q := ⟨_, rfl⟩
  obtain ⟨qb, hqb⟩ : ∃ q, smallB l' = q := ⟨_, rfl⟩
  have HNA : Hid (∀ w v, MonosAt w v l → Calls Try.prog 18 #[.agg #[.int .i64 K, v]] w fun e w' => e = .returned (.bool qa) ∧ Up w w') := Lib.hid fun w v h => by
    have := r05_Small K v l w h
    rw [hqa] at this; exact this
  have HNB : Hid (∀ w v, MonosAt w v l' → Calls Try.prog 18 #[.agg #[.int .i64 K', v]] w fun e w' => e = .returned (.bool qb) ∧ Up w w') := Lib.hid fun w v h => by
    have := r05_Small K' v l' w h
    rw [hqb] at this; exact this
  obtain ⟨f1, f2, f3, f4⟩ := comp_facts K K' l l'
  obtain ⟨c, hc⟩ : ∃ c, compareF K l K' l' = c := ⟨_, rfl⟩
  have H1 := Lib.hid (fun w v v' => lin_Compare K K' v v' l l' w)
  have H2 := Lib.hid (fun w v v' => r05_Compare K K' v v' l l' w)
  have H3 := Lib.hid (fun w v v' => lin_Compare K' K v v' l' l w)
  have H4 := Lib.hid (fun w v v' => lin_Same K K' v v' l l' w)
  rw [f1] at H3
  rw [f2] at H4
  rw [hc] at H1 H2 H3 H4 f3 f4
  obtain ⟨a, cap, rfl⟩ := hm.slice
  obtain ⟨a', cap', rfl⟩ := hm'.slice
  obtain ⟨n, hn⟩ : ∃ n, l.length = n := ⟨_, rfl⟩
  obtain ⟨n', hn'⟩ : ∃ n, l'.length = n := ⟨_, rfl⟩
  rw [hn] at HA ⊢
  rw [hn'] at HB ⊢
  have HU := Lib.hid (Up.refl W)
  clear hm hrg hsz hcp hK hm' hrg' hsz' hcp' hK' hqa hqb hn hn' f1 f2 hc
  go_enter Try.func7, Try.ntmps7
  go_wp2_with fail
  refine (HNA.out _ _ (HA.out.up (((Up.refl W).alloc _).alloc _))).mono ?_
  rintro e x1 ⟨rfl, hx1⟩
  have hs1 := hx1.size
  rw [size_alloc, size_alloc] at hs1
  have c1_0_0 : x1.cell? ⟨W.heap.size, 0, none⟩ = some (.int .i64 K) := (hx1.cell _ _ (by first | omega | (rw [size_alloc]; omega) | (rw [size_alloc, size_alloc]; omega) | (rw [size_alloc, size_alloc, size_alloc]; omega))).trans (by go_simp)
  have c1_0_1 : x1.cell? ⟨W.heap.size, 1, none⟩ = some (.slice a n cap) := (hx1.cell _ _ (by first | omega | (rw [size_alloc]; omega) | (rw [size_alloc, size_alloc]; omega) | (rw [size_alloc, size_alloc, size_alloc]; omega))).trans (by go_simp)
  have c1_0_q : W.heap.size < x1.heap.size := by omega
  have c1_1_0 : x1.cell? ⟨W.heap.size + 1, 0, none⟩ = some (.int .i64 K') := (hx1.cell _ _ (by first | omega | (rw [size_alloc]; omega) | (rw [size_alloc, size_alloc]; omega) | (rw [size_alloc, size_alloc, size_alloc]; omega))).trans (by go_simp)
  have c1_1_1 : x1.cell? ⟨W.heap.size + 1, 1, none⟩ = some (.slice a' n' cap') := (hx1.cell _ _ (by first | omega | (rw [size_alloc]; omega) | (rw [size_alloc, size_alloc]; omega) | (rw [size_alloc, size_alloc, size_alloc]; omega))).trans (by go_simp)
  have c1_1_q : W.heap.size + 1 < x1.heap.size := by omega
  replace HU := Lib.hid (((HU.out.alloc _).alloc _).trans hx1)
  replace HA := Lib.hid ((HA.out.up (((Up.refl W).alloc _).alloc _)).up hx1)
  replace HB := Lib.hid ((HB.out.up (((Up.refl W).alloc _).alloc _)).up hx1)
  clear hx1
  cases qa
  · go_wp2_with fail
    refine (law05_alive _).mono ?_
    rintro e z ⟨rfl, hz⟩
    go_wp2
    go_ret
    exact ⟨rfl, Up.trans (by repeat (first | exact HU.out | refine Up.alloc ?_ _)) hz⟩
  go_wp2_with fail
  refine (HNB.out _ _ (HB.out.up (Up.refl _))).mono ?_
  rintro e x2 ⟨rfl, hx2⟩
  have hs2 := hx2.size
  have c2_0_0 : x2.cell? ⟨W.heap.size, 0, none⟩ = some (.int .i64 K) := (hx2.cell _ _ (by first | omega | (rw [size_alloc]; omega) | (rw [size_alloc, size_alloc]; omega) | (rw [size_alloc, size_alloc, size_alloc]; omega))).trans (by go_simp)
  have c2_0_1 : x2.cell? ⟨W.heap.size, 1, none⟩ = some (.slice a n cap) := (hx2.cell _ _ (by first | omega | (rw [size_alloc]; omega) | (rw [size_alloc, size_alloc]; omega) | (rw [size_alloc, size_alloc, size_alloc]; omega))).trans (by go_simp)
  have c2_0_q : W.heap.size < x2.heap.size := by omega
  have c2_1_0 : x2.cell? ⟨W.heap.size + 1, 0, none⟩ = some (.int .i64 K') := (hx2.cell _ _ (by first | omega | (rw [size_alloc]; omega) | (rw [size_alloc, size_alloc]; omega) | (rw [size_alloc, size_alloc, size_alloc]; omega))).trans (by go_simp)
  have c2_1_1 : x2.cell? ⟨W.heap.size + 1, 1, none⟩ = some (.slice a' n' cap') := (hx2.cell _ _ (by first | omega | (rw [size_alloc]; omega) | (rw [size_alloc, size_alloc]; omega) | (rw [size_alloc, size_alloc, size_alloc]; omega))).trans (by go_simp)
  have c2_1_q : W.heap.size + 1 < x2.heap.size := by omega
  replace HU := Lib.hid ((HU.out).trans hx2)
  replace HA := Lib.hid ((HA.out.up (Up.refl _)).up hx2)
  replace HB := Lib.hid ((HB.out.up (Up.refl _)).up hx2)
  clear c1_0_0 c1_0_1 c1_0_q c1_1_0 c1_1_1 c1_1_q
  clear hx2
  cases qb
  · go_wp2_with fail
    refine (law05_alive _).mono ?_
    rintro e z ⟨rfl, hz⟩
    go_wp2
    go_ret
    exact ⟨rfl, Up.trans (by repeat (first | exact HU.out | refine Up.alloc ?_ _)) hz⟩
  go_wp2_with fail
  refine (H1.out _ _ _ (HA.out.up (Up.refl _)) (HB.out.up (Up.refl _))).mono ?_
  rintro e x3 ⟨rfl, hx3⟩
  have hs3 := hx3.size
  have c3_0_0 : x3.cell? ⟨W.heap.size, 0, none⟩ = some (.int .i64 K) := (hx3.cell _ _ (by first | omega | (rw [size_alloc]; omega) | (rw [size_alloc, size_alloc]; omega) | (rw [size_alloc, size_alloc, size_alloc]; omega))).trans (by go_simp)
  have c3_0_1 : x3.cell? ⟨W.heap.size, 1, none⟩ = some (.slice a n cap) := (hx3.cell _ _ (by first | omega | (rw [size_alloc]; omega) | (rw [size_alloc, size_alloc]; omega) | (rw [size_alloc, size_alloc, size_alloc]; omega))).trans (by go_simp)
  have c3_0_q : W.heap.size < x3.heap.size := by omega
  have c3_1_0 : x3.cell? ⟨W.heap.size + 1, 0, none⟩ = some (.int .i64 K') := (hx3.cell _ _ (by first | omega | (rw [size_alloc]; omega) | (rw [size_alloc, size_alloc]; omega) | (rw [size_alloc, size_alloc, size_alloc]; omega))).trans (by go_simp)
  have c3_1_1 : x3.cell? ⟨W.heap.size + 1, 1, none⟩ = some (.slice a' n' cap') := (hx3.cell _ _ (by first | omega | (rw [size_alloc]; omega) | (rw [size_alloc, size_alloc]; omega) | (rw [size_alloc, size_alloc, size_alloc]; omega))).trans (by go_simp)
  have c3_1_q : W.heap.size + 1 < x3.heap.size := by omega
  replace HU := Lib.hid ((HU.out).trans hx3)
  replace HA := Lib.hid ((HA.out.up (Up.refl _)).up hx3)
  replace HB := Lib.hid ((HB.out.up (Up.refl _)).up hx3)
  clear c2_0_0 c2_0_1 c2_0_q c2_1_0 c2_1_1 c2_1_q
  clear hx3
  go_wp2_with fail
  refine (H2.out _ _ _ (HA.out.up (Up.refl _)) (HB.out.up (Up.refl _))).mono ?_
  rintro e x4 ⟨rfl, hx4⟩
  have hs4 := hx4.size
  have c4_0_0 : x4.cell? ⟨W.heap.size, 0, none⟩ = some (.int .i64 K) := (hx4.cell _ _ (by first | omega | (rw [size_alloc]; omega) | (rw [size_alloc, size_alloc]; omega) | (rw [size_alloc, size_alloc, size_alloc]; omega))).trans (by go_simp)
  have c4_0_1 : x4.cell? ⟨W.heap.size, 1, none⟩ = some (.slice a n cap) := (hx4.cell _ _ (by first | omega | (rw [size_alloc]; omega) | (rw [size_alloc, size_alloc]; omega) | (rw [size_alloc, size_alloc, size_alloc]; omega))).trans (by go_simp)
  have c4_0_q : W.heap.size < x4.heap.size := by omega
  have c4_1_0 : x4.cell? ⟨W.heap.size + 1, 0, none⟩ = some (.int .i64 K') := (hx4.cell _ _ (by first | omega | (rw [size_alloc]; omega) | (rw [size_alloc, size_alloc]; omega) | (rw [size_alloc, size_alloc, size_alloc]; omega))).trans (by go_simp)
  have c4_1_1 : x4.cell? ⟨W.heap.size + 1, 1, none⟩ = some (.slice a' n' cap') := (hx4.cell _ _ (by first | omega | (rw [size_alloc]; omega) | (rw [size_alloc, size_alloc]; omega) | (rw [size_alloc, size_alloc, size_alloc]; omega))).trans (by go_simp)
  have c4_1_q : W.heap.size + 1 < x4.heap.size := by omega
  replace HU := Lib.hid ((HU.out).trans hx4)
  replace HA := Lib.hid ((HA.out.up (Up.refl _)).up hx4)
  replace HB := Lib.hid ((HB.out.up (Up.refl _)).up hx4)
  clear c3_0_0 c3_0_1 c3_0_q c3_1_0 c3_1_1 c3_1_q
  clear hx4
  go_wp2_with fail
  refine (H3.out _ _ _ (HB.out.up (Up.refl _)) (HA.out.up (Up.refl _))).mono ?_
  rintro e x5 ⟨rfl, hx5⟩
  have hs5 := hx5.size
  have c5_0_0 : x5.cell? ⟨W.heap.size, 0, none⟩ = some (.int .i64 K) := (hx5.cell _ _ (by first | omega | (rw [size_alloc]; omega) | (rw [size_alloc, size_alloc]; omega) | (rw [size_alloc, size_alloc, size_alloc]; omega))).trans (by go_simp)
  have c5_0_1 : x5.cell? ⟨W.heap.size, 1, none⟩ = some (.slice a n cap) := (hx5.cell _ _ (by first | omega | (rw [size_alloc]; omega) | (rw [size_alloc, size_alloc]; omega) | (rw [size_alloc, size_alloc, size_alloc]; omega))).trans (by go_simp)
  have c5_0_q : W.heap.size < x5.heap.size := by omega
  have c5_1_0 : x5.cell? ⟨W.heap.size + 1, 0, none⟩ = some (.int .i64 K') := (hx5.cell _ _ (by first | omega | (rw [size_alloc]; omega) | (rw [size_alloc, size_alloc]; omega) | (rw [size_alloc, size_alloc, size_alloc]; omega))).trans (by go_simp)
  have c5_1_1 : x5.cell? ⟨W.heap.size + 1, 1, none⟩ = some (.slice a' n' cap') := (hx5.cell _ _ (by first | omega | (rw [size_alloc]; omega) | (rw [size_alloc, size_alloc]; omega) | (rw [size_alloc, size_alloc, size_alloc]; omega))).trans (by go_simp)
  have c5_1_q : W.heap.size + 1 < x5.heap.size := by omega
  replace HU := Lib.hid ((HU.out).trans hx5)
  replace HA := Lib.hid ((HA.out.up (Up.refl _)).up hx5)
  replace HB := Lib.hid ((HB.out.up (Up.refl _)).up hx5)
  clear c4_0_0 c4_0_1 c4_0_q c4_1_0 c4_1_1 c4_1_q
  clear hx5
  rcases (by omega : c = -1 ∨ c = 0 ∨ c = 1) with rfl | rfl | rfl
  all_goals
    go_wp2_with fail
    refine (H4.out _ _ _ (HA.out.up (Up.refl _)) (HB.out.up (Up.refl _))).mono ?_
    rintro e x6 ⟨rfl, hx6⟩
    have hs6 := hx6.size
    have c6_0_0 : x6.cell? ⟨W.heap.size, 0, none⟩ = some (.int .i64 K) := (hx6.cell _ _ (by first | omega | (rw [size_alloc]; omega) | (rw [size_alloc, size_alloc]; omega) | (rw [size_alloc, size_alloc, size_alloc]; omega))).trans (by go_simp)
    have c6_0_1 : x6.cell? ⟨W.heap.size, 1, none⟩ = some (.slice a n cap) := (hx6.cell _ _ (by first | omega | (rw [size_alloc]; omega) | (rw [size_alloc, size_alloc]; omega) | (rw [size_alloc, size_alloc, size_alloc]; omega))).trans (by go_simp)
    have c6_0_q : W.heap.size < x6.heap.size := by omega
    have c6_1_0 : x6.cell? ⟨W.heap.size + 1, 0, none⟩ = some (.int .i64 K') := (hx6.cell _ _ (by first | omega | (rw [size_alloc]; omega) | (rw [size_alloc, size_alloc]; omega) | (rw [size_alloc, size_alloc, size_alloc]; omega))).trans (by go_simp)
    have c6_1_1 : x6.cell? ⟨W.heap.size + 1, 1, none⟩ = some (.slice a' n' cap') := (hx6.cell _ _ (by first | omega | (rw [size_alloc]; omega) | (rw [size_alloc, size_alloc]; omega) | (rw [size_alloc, size_alloc, size_alloc]; omega))).trans (by go_simp)
    have c6_1_q : W.heap.size + 1 < x6.heap.size := by omega
    replace HU := Lib.hid ((HU.out).trans hx6)
    replace HA := Lib.hid ((HA.out.up (Up.refl _)).up hx6)
    replace HB := Lib.hid ((HB.out.up (Up.refl _)).up hx6)
    clear c5_0_0 c5_0_1 c5_0_q c5_1_0 c5_1_1 c5_1_q
    clear hx6
    go_wp2_with fail
    refine (law05_alive _).mono ?_
    rintro e z ⟨rfl, hz⟩
    go_wp2
    go_ret
    exact ⟨rfl, HU.out.trans hz⟩
end Go.Proofs.Ytpclbgaaoednnaa.linCompares
