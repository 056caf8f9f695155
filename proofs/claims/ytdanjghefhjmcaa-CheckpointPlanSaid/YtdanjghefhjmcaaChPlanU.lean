/-
  checkpoint.Plan (chapter 28, the program's side).
-/
import Derived.Test.YtdanjghefhjmcaaChPlanT
namespace Go.Proofs.Ytdanjghefhjmcaa
open Go.ChangeShapes Go.WideShapes Go.ChangeAt Go.RowKit
set_option linter.unusedVariables false
set_option linter.unusedSimpArgs false

theorem actCells_get : ∀ (l : List Actn) (i j : Nat), i < l.length → j < 3 → (actCells l)[i * 3 + j]? = some (actF l i j)
  | [], i, j, hi, _ => absurd hi (by simp)
  | a :: r, 0, j, _, hj => by
    rcases (by omega : j = 0 ∨ j = 1 ∨ j = 2) with rfl | rfl | rfl <;> rfl
  | a :: r, i + 1, j, hi, hj => by
    have := actCells_get r i j (by simp at hi; omega) hj
    rw [show (i + 1) * 3 + j = i * 3 + j + 3 by omega]
    have e : actCells (a :: r) = .int .i64 a.1 :: .int .i64 a.2.1 :: .int .i64 a.2.2 :: actCells r := rfl
    rw [e]
    simp only [List.getElem?_cons_succ]
    rw [this]
    rcases (by omega : j = 0 ∨ j = 1 ∨ j = 2) with rfl | rfl | rfl <;> simp [actF]

set_option maxHeartbeats 4000000 in
set_option maxRecDepth 100000 in
theorem chk_Plan_ok (n s : Nat) (hn : n ≤ 64) (hs : s ≤ 64) (w : World) :
    Calls Try.prog 21 #[.int .i64 n, .int .i64 s] w fun e w' => ∃ v, e = .returned (.tuple #[v, .int .i64 0]) ∧ IsActs w' v (revF s n 0 n (-1) s) ∧ Up w w' := by
  have h1 : Hid (okN n = true) := Lib.hid (by simp [okN]; omega)
  have h2 : Hid (okN s = true) := Lib.hid (by simp [okN]; omega)
  go_enter Try.func21, Try.ntmps21
  go_wp2_with fail
  refine (chk_argument _ true h1.out _).mono ?_
  rintro e x ⟨rfl, hx⟩
  go_wp2_with fail
  refine (chk_argument _ true h2.out _).mono ?_
  rintro e x2 ⟨rfl, hx2⟩
  have HU := Lib.hid (hx.trans hx2)
  clear hx hx2
  go_wp2_with fail
  refine (chk_costs _).mono ?_
  rintro e x3 ⟨rfl, cf, ff, t1, t2, t3, t4, t5⟩
  have HT : Hid (TabIs x3 (x2.heap.size + 1) firstF) := Lib.hid ⟨t2.lt, fun a b ha hb => by rw [t2.cell a b ha hb, (t4 a b ha hb (Or.inl (by omega))).2], t2.froz⟩
  have HU3 := Lib.hid t3
  clear t1 t2 t3 t4 t5
  go_wp2_with fail
  obtain ⟨b, hb⟩ : ∃ b, x3.heap.size = b := ⟨_, rfl⟩
  obtain ⟨xp, hxp⟩ : ∃ xp, x3.alloc (.cells #[.pointer (some ⟨x2.heap.size + 1, 0, none⟩), .int .i64 s, .slice none 0 0] 63) = xp := ⟨_, rfl⟩
  have hup : Up x3 xp := by rw [← hxp]; exact (Up.refl _).alloc _
  have hrow : xp.heap[b]? = some (.cells #[.pointer (some ⟨x2.heap.size + 1, 0, none⟩), .int .i64 s, .slice none 0 0] 63 (0, 0)) := by rw [← hxp, ← hb]; exact heap_alloc_new _ _
  have hsz : xp.heap.size = b + 1 := by rw [← hxp, ← hb]; simp
  have htl := HT.out.lt
  have hp0 : PlanAt xp (b + 1) b (x2.heap.size + 1) s [] := ⟨none, 0, hrow, World.ownsRow_nil _ _ _ _, by omega, by omega⟩
  have hF : FirstAt xp (b + 1) b (x2.heap.size + 1) := ⟨HT.out.up hup, by omega, by omega⟩
  have hwb : w.heap.size ≤ b := by rw [← hb]; exact Nat.le_trans HU.out.size HU3.out.size
  have HUX := Lib.hid ((HU.out.trans HU3.out).trans hup)
  rw [hb, hxp]
  have hlt : 0 + n ≤ 64 := by omega
  refine (plan_reverse (b + 1) b (x2.heap.size + 1) s hs n 0 n (-1) s xp [] n s (by omega) rfl hlt (Nat.le_refl _) (Nat.le_refl _) (by have := Nat.mul_le_mul hn hn; simp; omega) hp0 hF).mono ?_
  rintro e x4 ⟨rfl, hp4, hu4⟩
  rw [List.nil_append, Nat.zero_add] at hp4
  have hlen := revF_len s n 0 n (-1) s (by omega) (by omega) hs
  obtain ⟨a, cap, hr4, ho4, hb4, hs4⟩ := hp4
  have c2 : x4.cell? ⟨b, 2, none⟩ = some (.slice a (revF s n 0 n (-1) s).length cap) := cell_of_row _ _ _ _ _ _ hr4
  have HO := Lib.hid ho4
  have HUX4 := Lib.hid (show Up w x4 from ⟨hu4.os.trans HUX.out.os, hu4.tape.trans HUX.out.tape, hu4.output.trans HUX.out.output, Nat.le_trans HUX.out.size hu4.size, fun k hk => (hu4.block k (by omega) (by omega)).trans (HUX.out.block k hk)⟩)
  have HLEN := Lib.hid hlen
  clear hu4 ho4 hr4 hlen hF hp0 hup hrow hxp
  go_wp2
  go_ret2
  refine ⟨_, rfl, SlAt.of_own HO.out (by have := HLEN.out; have := Nat.mul_le_mul hn hn; simp only [Nat.sub_zero] at *; omega) (fun i j hi hj => ?_), HUX4.out⟩
  exact actCells_get _ i j hi hj
end Go.Proofs.Ytdanjghefhjmcaa
