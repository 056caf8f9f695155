/-
  isa: valid, Validate. Printed by mkPeJ.py.
-/
import Derived.Test.YtbpojmhgifgfdaaDoorPeZ
namespace Go.Proofs.YtbpojmhgifgfdaaDoor
open Go.ChangeShapes Go.WideShapes Go.ChangeAt Go.RowKit
set_option linter.unusedVariables false
set_option linter.unusedSimpArgs false
set_option maxRecDepth 100000

/-- valid: an instruction in a program of so many instructions, types, words. -/
def valB (x : Ins) (many types words : Int) : Bool :=
  wfB x && (if jumpsB x.1 then decide (x.2.1 < many) else if x.1 = 10 ∨ x.1 = 11 then decide (x.2.2.2.1 ≤ words) else if x.1 = 13 then decide (x.2.2.2.2.1.1 < types) else true)

set_option maxHeartbeats 8000000 in
theorem isa_valid (x : Ins) (hx : InR x) (many types words : Int) (w : World) (ht : ITab w) :
    Calls Tryd.prog 42 #[insV x, .int .i64 many, .int .i64 types, .int .i64 words] w fun e' w' => e' = .returned (.bool (valB x many types words)) ∧ Up w w' := by
  obtain ⟨r, hr⟩ : ∃ r, valB x many types words = r := ⟨_, rfl⟩
  rw [hr]
  obtain ⟨wf, hwf⟩ : ∃ wf, wfB x = wf := ⟨_, rfl⟩
  obtain ⟨jj, hj⟩ : ∃ jj, jumpsB x.1 = jj := ⟨_, rfl⟩
  have HW : Hid (∀ w, ITab w → Calls Tryd.prog 58 #[insV x] w fun e' w' => e' = .returned (.bool wf) ∧ Up w w') := Lib.hid (fun w h => hwf ▸ isa_wellFormed x hx w h)
  have HJ : Hid (∀ w, ITab w → Calls Tryd.prog 59 #[.int .i64 x.1] w fun e' w' => e' = .returned (.bool jj) ∧ Up w w') := Lib.hid (fun w h => hj ▸ isa_jumps x.1 w h)
  have HR : Hid ((wf && (if jj then decide (x.2.1 < many) else if x.1 = 10 ∨ x.1 = 11 then decide (x.2.2.2.1 ≤ words) else if x.1 = 13 then decide (x.2.2.2.2.1.1 < types) else true)) = r) := Lib.hid (by rw [← hr, valB, hwf, hj])
  have HT := Lib.hid ht
  have HB0 : Hid (BoxI (w.alloc (.cells #[.int .i64 x.1, .int .i64 x.2.1, .int .i64 x.2.2.1, .int .i64 x.2.2.2.1, .int .i64 x.2.2.2.2.1.1, .int .i64 x.2.2.2.2.1.2, .int .i64 x.2.2.2.2.2.1, .int .i64 x.2.2.2.2.2.2.1, .int .i64 x.2.2.2.2.2.2.2.1, .int .i64 x.2.2.2.2.2.2.2.2.1, .int .i64 x.2.2.2.2.2.2.2.2.2] 64)) w.heap.size x) := Lib.hid (BoxI.new w x rfl)
  obtain ⟨op, A, b, c, ⟨n, d⟩, kd, bi, fr, ro, ov⟩ := x
  dsimp only [insV] at HW HJ HR HB0
  clear hr hwf hj hx ht
  go_enter Tryd.func42, Tryd.ntmps42
  go_wp2_with fail
  have hU1 := (Up.refl w).alloc (.cells #[.int .i64 op, .int .i64 A, .int .i64 b, .int .i64 c, .int .i64 n, .int .i64 d, .int .i64 kd, .int .i64 bi, .int .i64 fr, .int .i64 ro, .int .i64 ov] 64)
  refine (HW.out _ (HT.out.up hU1)).mono ?_
  rintro e y ⟨rfl, hy⟩
  have HB1 := Lib.hid (HB0.out.up hy)
  have HU := Lib.hid (hU1.trans hy)
  clear hy hU1 HB0
  obtain ⟨x0, x1, x2, x3, x4, x5, x6, x7, x8, x9, x10⟩ := HB1.out.all
  cases wf
  · have HG : Hid (false = r) := Lib.hid HR.out
    go_wp2
    go_ret
    exact ⟨ret_bool HG.out, HU.out⟩
  · go_wp2_with fail
    refine (HJ.out _ (HT.out.up HU.out)).mono ?_
    rintro e y2 ⟨rfl, hy2⟩
    have HB2 := Lib.hid (HB1.out.up hy2)
    have HU2 := Lib.hid (HU.out.trans hy2)
    clear x0 x1 x2 x3 x4 x5 x6 x7 x8 x9 x10 hy2 HB1 HU
    obtain ⟨x0, x1, x2, x3, x4, x5, x6, x7, x8, x9, x10⟩ := HB2.out.all
    cases jj
    all_goals
      go_wp2
      all_goals try simp only [Bool.not_eq_false', Bool.not_eq_true', bne_iff_ne, ne_eq, bne_eq_false_iff_eq, beq_iff_eq, beq_eq_false_iff_ne, decide_eq_true_eq, decide_eq_false_iff_not] at *
      all_goals
        go_ret
        exact ⟨ret_bool (by rw [← HR.out]; first | (simp [*]; done) | (rename_i hq; simp at hq; rcases hq with hq | hq <;> simp [hq]; done) | (simp_all; done)), HU2.out⟩

end Go.Proofs.YtbpojmhgifgfdaaDoor
