/-
  Contracts of chapter 3: conversion to fractions, the reference's side. Printed by mk03t.py.
-/
import Derived.Test.YtknojjmbhbbcmaaFixG
import Derived.Test.YtknojjmbhbbcmaaFixP
import Derived.Test.YtknojjmbhbbcmaaBox
namespace Go.Proofs.Ytknojjmbhbbcmaa
open Go.ChangeShapes Go.WideShapes Go.ChangeAt Go.RowKit
set_option linter.unusedVariables false
set_option linter.unusedSimpArgs false

theorem halve_spec : ∀ (j : Nat) (n : Int), j ≤ 30 → (halve j n).1 * 2 ^ j = n * (halve j n).2 ∧ 1 ≤ (halve j n).2 ∧ (halve j n).2 ≤ 2 ^ j ∧ Int.gcd (halve j n).1 (halve j n).2 = 1 ∧ mag (halve j n).1 ≤ mag n
  | 0, n, _ => by simp [halve]
  | j + 1, n, hj => by
    have hp := pow30 (j : Int) (by omega) (by omega)
    rw [Int.toNat_natCast] at hp
    unfold halve
    by_cases h : n % 2 = 0
    · rw [if_pos h]
      obtain ⟨a1, a2, a3, a4, a5⟩ := halve_spec j (n / 2) (by omega)
      refine ⟨?_, a2, by rw [Int.pow_succ]; omega, a4, Int.le_trans a5 (by unfold mag; split <;> split <;> omega)⟩
      rw [Int.pow_succ, ← Int.mul_assoc, a1, Int.mul_assoc, Int.mul_comm _ 2, ← Int.mul_assoc]
      congr 1; omega
    · rw [if_neg h]
      refine ⟨rfl, by rw [Int.pow_succ]; omega, Int.le_refl _, gcd_odd n h _, Int.le_refl _⟩

theorem set_row2 {w : World} {Z : Nat} {t : TypeId} {x y : Value} (h : w.heap[Z]? = some (.cells #[x, y] t (0, 0))) (a : Value) : (w.setCell ⟨Z, 0, none⟩ a).heap[Z]? = some (.cells #[a, y] t (0, 0)) := by
  simp [World.setCell, Array.getElem?_modify, h]

set_option maxHeartbeats 4000000 in
theorem ref03_ToFrac (k b f r o n d x y e : Int) (hr : toR k b f r o n d = (x, y, e)) (w : World) :
    Calls Try.prog 25 #[.agg #[.int .i64 k, .int .i64 b, .int .i64 f, .int .i64 r, .int .i64 o], .agg #[.int .i64 n, .int .i64 d]] w fun e' w' => e' = .returned (.tuple #[.agg #[.int .i64 x, .int .i64 y], .int .i64 e]) ∧ Up w w' := by
  obtain ⟨c, hc⟩ : ∃ c, chkE k b f r o [(n, d)] = c := ⟨_, rfl⟩
  rw [toR, hc] at hr
  have HC : Hid (chkE k b f r o [(n, d), (n, d)] = c) := Lib.hid ((chk_two _ _ _ _ _ _ _).trans hc)
  by_cases h0 : c = 0
  · rw [if_neg (by omega)] at hr
    subst h0
    obtain ⟨ht, hv⟩ := chk_zero hc
    obtain ⟨rfl, s1, s2, s3, s4, s5, s6, s7⟩ := vT_spec ht
    obtain ⟨rfl, a1, a2⟩ := vV_spec s1 s2 (hv (n, d) (by simp))
    obtain ⟨p1, p2⟩ := pow30 f s3 s4
    obtain ⟨rfl, rfl, rfl⟩ := trip hr
    have hf := Int.eq_ofNat_of_zero_le s3
    obtain ⟨j0, rfl⟩ := hf
    clear hr hc ht hv s7
    have hT : ((j0 : Int)).toNat = j0 := rfl
    rw [hT] at p1 p2 ⊢
    obtain ⟨B, hB⟩ : ∃ B, w.heap.size = B := ⟨_, rfl⟩
    have HBB := Lib.hid hB
    obtain ⟨hx1, hx2⟩ : ∃ N D, halve j0 n = (N, D) := ⟨_, _, rfl⟩
    obtain ⟨D, hND⟩ := hx2
    have HND := Lib.hid hND
    rw [hND]
    clear hND hB
    go_enter Try.func25, Try.ntmps25
    go_wp2_with fail
    refine (ref03_check _ _ _ _ _ _ _ _ _ _ HC.out _).mono ?_
    rintro e1 x1 ⟨rfl, hW⟩
    have hr1 : x1.heap[w.heap.size + 1]? = some (.cells #[.int .i64 n, .int .i64 1] 25 (0, 0)) := (hW.heap _ (by simp)).trans ((box3 w _ _ _ _ _ _ 0).b)
    have hr2 : x1.heap[w.heap.size + 1 + 1]? = some (.cells #[.int .i64 0, .int .i64 0] 25 (0, 0)) := (hW.heap _ (by simp)).trans ((box3 w _ _ _ _ _ _ 0).c)
    have hr0 := (hW.heap w.heap.size (by simp; omega)).trans ((box3 w _ _ _ _ _ _ 0).a)
    have hU1 : Up w x1 := Up.trans (by repeat (first | exact Up.refl _ | refine Up.alloc ?_ _)) hW
    have c0 : x1.cell? ⟨w.heap.size, 2, none⟩ = some (.int .i64 (j0 : Int)) := cell_of_row _ _ _ _ _ _ hr0
    have HR1 := Lib.hid hr1
    have HR2 := Lib.hid hr2
    have HU1 := Lib.hid hU1
    clear hr0 hr1 hr2 hU1 hW
    have hp0 : 1 * 2 ^ j0 = (2 : Int) ^ j0 := by rw [Int.one_mul]
    go_wp2_with fail
    go_loopw [7] (fun dd wr => ∃ (j : Nat) (m : Int), dd = .int .i64 (2 ^ j) ∧ j ≤ 30 ∧ -1073741824 ≤ m ∧ m ≤ 1073741823 ∧ wr.heap[w.heap.size + 1]? = some (.cells #[.int .i64 m, .int .i64 1] 25 (0, 0)) ∧ wr.heap[w.heap.size + 1 + 1]? = some (.cells #[.int .i64 0, .int .i64 0] 25 (0, 0)) ∧ Up w wr ∧ halve j m = (hx1, D)) (fun dd _ => (intOf dd).toNat)
    case atStart => exact ⟨j0, n, rfl, by omega, a1, a2, HR1.out, HR2.out, HU1.out, HND.out⟩
    case round =>
      rename_i wr
      obtain ⟨j, m, rfl, hj, m1, m2, r1, r2, hU, hh⟩ := hrel
      have cm : wr.cell? ⟨w.heap.size + 1, 0, none⟩ = some (.int .i64 m) := cell_of_row _ _ _ _ _ _ r1
      have z1 := fun o => frozen_of_row _ _ o _ _ r1
      have c3 : wr.cell? ⟨w.heap.size + 1 + 1, 0, none⟩ = some (.int .i64 0) := cell_of_row _ _ _ _ _ _ r2
      have c4 : wr.cell? ⟨w.heap.size + 1 + 1, 1, none⟩ = some (.int .i64 0) := cell_of_row _ _ _ _ _ _ r2
      have z2 := fun o => frozen_of_row _ _ o _ _ r2
      have R1 := Lib.hid r1
      have R2 := Lib.hid r2
      have HU := Lib.hid hU
      have HH := Lib.hid hh
      clear r1 r2 hU hh c0 p1 p2 hp0
      cases j with
      | zero =>
        obtain ⟨rfl, rfl⟩ : m = hx1 ∧ 1 = D := by have := HH.out; simpa [halve] using this
        have he : (2 : Int) ^ 0 = 1 := rfl
        rw [he]
        clear he
        go_wp2
        exact bodyPost_ret (v := .tuple #[.agg #[.int .i64 m, .int .i64 1], .int .i64 0]) (by simp [results, Try.results25, go_sem, c3, c4]) rfl ⟨rfl, by repeat (first | exact HU.out | refine Up.setCell ?_ (by first | omega | (simp; done) | (simp; omega)) _)⟩
      | succ j =>
        have hp := pow30 (j : Int) (by omega) (by omega)
        rw [Int.toNat_natCast] at hp
        obtain ⟨E, hE⟩ : ∃ E : Int, 2 ^ j = E := ⟨_, rfl⟩
        have hE2 : (2 : Int) ^ (j + 1) = 2 * E := by rw [Int.pow_succ, hE]; omega
        rw [hE] at hp
        have HE := Lib.hid hE
        rw [hE2]
        have HE2 := Lib.hid hE2
        clear hE hE2
        obtain ⟨hp1, hp2⟩ := hp
        have hgt : 1 < 2 * E := by omega
        have hdv : 2 * E / 2 = E := by omega
        obtain ⟨p, hpp⟩ : ∃ p, m.tmod 2 = p := ⟨_, rfl⟩
        have hp3 : p = 0 ↔ m % 2 = 0 := by rw [← hpp, tmod_two]; split <;> omega
        by_cases ev : m % 2 = 0
        · obtain rfl : p = 0 := hp3.2 ev
          have hdv2 : m.tdiv 2 = m / 2 := by rw [Int.tdiv_eq_ediv_of_dvd (by omega)]
          have HN2 : Hid (halve j (m / 2) = (hx1, D)) := Lib.hid (by rw [← HH.out, halve, if_pos ev])
          obtain ⟨h, hh⟩ : ∃ h, m / 2 = h := ⟨_, rfl⟩
          rw [hh] at hdv2 HN2
          have hb1 : -1073741824 ≤ h := by omega
          have hb2 : h ≤ 1073741823 := by omega
          clear hh hp3 ev
          go_wp2
          go_roundw
          case rel => exact ⟨j, h, by rw [HE.out], by omega, hb1, hb2, set_row2 R1.out _, (Below.heap_setCell _ _ _ _ (by simp)).trans R2.out, HU.out.setCell (by show _ ≤ w.heap.size + 1; omega) _, HN2.out⟩
          case measure => simp [intOf]; omega
        · have hp0 : (p == 0) = false := by simp; intro hp; exact ev (hp3.1 hp)
          obtain ⟨rfl, h2⟩ : m = hx1 ∧ 2 ^ (j + 1) = D := by have := HH.out; rw [halve, if_neg ev] at this; simpa using this
          obtain rfl : D = 2 * E := by rw [← h2, HE2.out]
          clear hp3 ev h2
          go_wp2
          exact bodyPost_ret (v := .tuple #[.agg #[.int .i64 m, .int .i64 (2 * E)], .int .i64 0]) (by simp [results, Try.results25, go_sem, c3, c4]) rfl ⟨rfl, by repeat (first | exact HU.out | refine Up.setCell ?_ (by first | omega | (simp; done) | (simp; omega)) _)⟩

  · rw [if_pos h0] at hr
    obtain ⟨rfl, rfl, rfl⟩ := trip hr
    have he1 : (e == 0) = false := by simpa using h0
    have he2 : (e != 0) = true := by simpa using h0
    clear hr hc
    go_enter Try.func25, Try.ntmps25
    go_wp2_with fail
    refine (ref03_check _ _ _ _ _ _ _ _ _ _ HC.out _).mono ?_
    rintro e1 x1 ⟨rfl, hW⟩
    obtain ⟨hc, hf⟩ := hW.both
    have HW := Lib.hid hW
    clear hW
    go_wp2
    exact bodyPost_ret (v := .tuple #[.agg #[.int .i64 0, .int .i64 0], .int .i64 e]) (by simp [results, Try.results25, go_sem, *]) rfl ⟨rfl, (by repeat (first | exact Up.trans (by repeat (first | exact Up.refl _ | refine Up.alloc ?_ _)) HW.out | refine Up.setCell ?_ (by first | omega | (simp; done) | (simp; omega)) _ | refine Up.alloc ?_ _))⟩

end Go.Proofs.Ytknojjmbhbbcmaa
