/-
  The constant form and the form of one variable.
-/
import Derived.Test.YtpclbgaaoednnaaDoorLin3
namespace Go.Proofs.YtpclbgaaoednnaaDoor
open Go.ChangeShapes Go.WideShapes Go.ChangeAt Go.RowKit
set_option linter.unusedVariables false

theorem lin_Const (K : Int) (w : World) : Calls Tryd.prog 11 #[.int .i64 K] w fun e w' => e = .returned (.agg #[.int .i64 K, .slice none 0 0]) ∧ Up w w' := by
  go_enter Tryd.func11, Tryd.ntmps11
  go_wp2
  refine bodyPost_ret (v := .agg #[.int .i64 K, .slice none 0 0]) (by simp [results, Tryd.results11, go_sem]) rfl ?_
  refine ⟨rfl, ?_⟩
  repeat (first | exact Up.refl _ | refine Up.drewN _ ?_ | refine Up.setCell ?_ (by first | (simp; done) | (simp; omega)) _ | refine Up.alloc ?_ _)
theorem lin_Var (s : ByteArray) (w : World) : Calls Tryd.prog 12 #[.string s] w fun e w' => ∃ v, e = .returned (.agg #[.int .i64 0, v]) ∧ MonosAt w' v (varL s) ∧ Up w w' := by
  obtain ⟨q, hq⟩ : ∃ q, nameB s.toList = q := ⟨_, rfl⟩
  have HI : Hid (∀ w, Calls Tryd.prog 13 #[.string s] w fun e w' => e = .returned (.bool q) ∧ Up w w') := Lib.hid fun w => by
    rw [← hq]
    exact (lin_identifier s w).mono fun e w' ⟨h1, h2⟩ => ⟨h1, h2 ▸ Up.refl _⟩
  unfold varL
  rw [hq]
  clear hq
  go_enter Tryd.func12, Tryd.ntmps12
  go_wp2_with fail
  refine (HI.out _).mono ?_
  rintro e x ⟨rfl, hx⟩
  have hs := hx.size
  rw [size_alloc] at hs
  have q1 : w.heap.size < x.heap.size := by omega
  have c0 : x.cell? ⟨w.heap.size, 0, none⟩ = some (.int .i64 0) := (hx.cell _ _ (by rw [size_alloc]; omega)).trans (by go_simp)
  have c1 : x.cell? ⟨w.heap.size, 1, none⟩ = some (.slice none 0 0) := (hx.cell _ _ (by rw [size_alloc]; omega)).trans (by go_simp)
  have f1 : ∀ o, x.frozen? ⟨w.heap.size, o, none⟩ = false := fun o => (hx.frozen _ _ (by rw [size_alloc]; omega)).trans (by go_simp)
  have HU := Lib.hid (((Up.refl w).alloc _).trans hx)
  clear hx hs
  have hne : (w.heap.size = x.heap.size) = False := by simp; omega
  have hnf : (x.heap.size = w.heap.size) = False := by simp; omega
  cases q
  · go_wp2
    refine bodyPost_ret (v := .agg #[.int .i64 0, .slice none 0 0]) (by simp [results, Tryd.results12, go_sem, c0, c1]) rfl ?_
    refine ⟨_, rfl, monos_nil _, ?_⟩
    repeat (first | exact HU.out | refine Up.setCell ?_ (by first | (simp; done) | (simp; omega)) _)
  · go_wp2
    obtain ⟨x', hx'⟩ : ∃ x', (x.setCell ⟨w.heap.size, 0, none⟩ (.int .i64 0)).setCell ⟨w.heap.size, 1, none⟩ (.slice (some ⟨x.heap.size, 0, none⟩) 1 1) = x' := ⟨_, rfl⟩
    have hsz : x'.heap.size = x.heap.size := by rw [← hx']; simp
    have e0 : x'.cell? ⟨w.heap.size, 0, none⟩ = some (.int .i64 0) := by rw [← hx']; clear hsz hx'; go_simp
    have e1 : x'.cell? ⟨w.heap.size, 1, none⟩ = some (.slice (some ⟨x.heap.size, 0, none⟩) 1 1) := by rw [← hx']; clear e0 hsz hx'; go_simp
    have HX : Up w x' := by
      rw [← hx']
      repeat (first | exact HU.out | refine Up.setCell ?_ (by first | (simp; done) | (simp; omega)) _)
    rw [hx']
    clear hx' c0 c1 f1
    have q2 : w.heap.size < x'.heap.size := by omega
    refine bodyPost_ret (v := .agg #[.int .i64 0, .slice (some ⟨x.heap.size, 0, none⟩) 1 1]) (by simp [results, Tryd.results12, go_sem, World.cell?_alloc_lt, q2, e0, e1]) rfl ?_
    refine ⟨_, rfl, ?_, HX.alloc _⟩
    rw [← hsz]
    exact monos_one x' _ s 1

end Go.Proofs.YtpclbgaaoednnaaDoor

