/-
  The reference 47: val. Printed by mkPeN.py.
-/
import Derived.Test.YtbpojmhgifgfdaaDoorPeMn
namespace Go.Proofs.YtbpojmhgifgfdaaDoor
open Go.ChangeShapes Go.WideShapes Go.ChangeAt Go.RowKit
set_option linter.unusedVariables false
set_option linter.unusedSimpArgs false
set_option maxRecDepth 100000

def vlB (x : Ins) : Bool :=
  if x.1 = 9 then validF x.2.2.2.2.1.1 x.2.2.2.2.1.2 else if x.1 = 10 ∨ x.1 = 11 then numB x.2.2.2.2.1.1 x.2.2.2.2.1.2 0 x.2.2.2.1
  else if x.1 = 12 then numB x.2.2.2.2.1.1 x.2.2.2.2.1.2 4 10 && (decide (x.2.2.2.2.1.1 ≠ 8) || decide (x.2.2.2.1 = 0))
  else if x.1 = 13 then numB x.2.2.2.2.1.1 x.2.2.2.2.1.2 0 255 else if x.1 = 14 then numB x.2.2.2.2.1.1 x.2.2.2.2.1.2 13 15 else decide (x.2.2.2.2.1.1 = 0 ∧ x.2.2.2.2.1.2 = 0)

set_option maxHeartbeats 8000000 in
theorem r47_val (x : Ins) (hx : InR x) (r : Bool) (hr : vlB x = r) (w : World) :
    Calls Tryd.prog 50 #[insV x] w fun e' w' => e' = .returned (.bool r) ∧ Up w w' := by
  have HR := Lib.hid hr
  have hn : R64 x.2.2.2.2.1.1 := hx 4
  have HB0 : Hid (BoxI (w.alloc (.cells #[.int .i64 x.1, .int .i64 x.2.1, .int .i64 x.2.2.1, .int .i64 x.2.2.2.1, .int .i64 x.2.2.2.2.1.1, .int .i64 x.2.2.2.2.1.2, .int .i64 x.2.2.2.2.2.1, .int .i64 x.2.2.2.2.2.2.1, .int .i64 x.2.2.2.2.2.2.2.1, .int .i64 x.2.2.2.2.2.2.2.2.1, .int .i64 x.2.2.2.2.2.2.2.2.2] 64)) w.heap.size x) := Lib.hid (BoxI.new w x rfl)
  obtain ⟨op, A, b, c, ⟨n, d⟩, kd, bi, fr, ro, ov⟩ := x
  have HFV : Hid (∀ w, Calls Tryd.prog 60 #[.agg #[.int .i64 1, .int .i64 0, .int .i64 0, .int .i64 0, .int .i64 0], .agg #[.int .i64 n, .int .i64 d]] w fun e w' => e = .returned (.bool (validF n d)) ∧ Up w w') := Lib.hid (fun w => base_Val_frac 1 0 0 0 0 n d _ rfl (by decide) (by decide) hn.1 hn.2 w)
  dsimp only at HB0
  have HU := Lib.hid ((Up.refl w).alloc (.cells #[.int .i64 op, .int .i64 A, .int .i64 b, .int .i64 c, .int .i64 n, .int .i64 d, .int .i64 kd, .int .i64 bi, .int .i64 fr, .int .i64 ro, .int .i64 ov] 64))
  clear hr hx hn
  go_enter Tryd.func50, Tryd.ntmps50
  go_wp2_with (first | (go_at_call 61; refine (r47_number _ _ _ _ _ rfl _).mono ?_; rintro e' y ⟨rfl, hy⟩; have HU := Lib.hid (HU.out.trans hy); obtain ⟨x0, x1, x2, x3, x4, x5, x6, x7, x8, x9, x10⟩ := (HB0.out.up hy).all; clear hy) | (go_at_call 60; refine (HFV.out _).mono ?_; rintro e' y ⟨rfl, hy⟩; have HU := Lib.hid (HU.out.trans hy); clear hy))
  all_goals try simp only [Bool.not_eq_false', Bool.not_eq_true', bne_iff_ne, ne_eq, bne_eq_false_iff_eq, beq_iff_eq, beq_eq_false_iff_ne, decide_eq_true_eq, decide_eq_false_iff_not] at *
  all_goals
    go_ret
    exact ⟨ret_bool (by rw [← HR.out, vlB, Bool.eq_iff_iff]; first | (simp [*]; done) | (clear HU HB0 HFV HR; simp_all; done)), by first | exact HU.out | exact (Up.refl w).alloc _⟩
end Go.Proofs.YtbpojmhgifgfdaaDoor
