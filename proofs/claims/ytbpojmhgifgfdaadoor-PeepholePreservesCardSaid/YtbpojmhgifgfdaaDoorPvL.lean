/-
  The reference 49: test. Printed by mkPvL.py.
-/
import Derived.Test.YtbpojmhgifgfdaaDoorPvZ
import Derived.Test.YtbpojmhgifgfdaaDoorPeZ
import Derived.BigRegion
import Derived.Deep.Cut
import Derived.Deep.CutRange
namespace Go.Proofs.YtbpojmhgifgfdaaDoor
open Go.ChangeShapes Go.WideShapes Go.ChangeAt Go.RowKit
set_option linter.unusedVariables false
set_option linter.unusedSimpArgs false
set_option maxRecDepth 100000

def testF (t : Typ) (n1 a1 a2 b1 b2 : Int) : Bool × Int :=
  if valV t a1 a2 = false ∨ valV t b1 b2 = false then (false, 1)
  else (decide ((cmp4 t a1 a2 b1 b2 < 0 ∧ n1 ≠ 15) ∨ (cmp4 t a1 a2 b1 b2 = 0 ∧ n1 ≠ 13)), 0)
def TestCut (y : World) (a1 a2 b1 b2 : Int) (s6 s7 : Value) (wx : World) : Prop := ∃ p q : Nat, s6 = .pointer (some ⟨p, 0, none⟩) ∧ s7 = .pointer (some ⟨q, 0, none⟩) ∧ Up y wx ∧ BoxC wx p 60 #[.int .i64 a1, .int .i64 a2] ∧ BoxC wx q 60 #[.int .i64 b1, .int .i64 b2]
set_option maxHeartbeats 8000000 in
theorem r49_test (ca ta ra ma xa : Option Addr) (cn cc tn tc rc mn mc xc : Nat) (pc A n1 d kd bi fr ro ov : Int) (h : Bool) (R : List (Int × Int)) (B D : Nat) (w : World) (hr : ValsAt w (.slice ra 256 rc) R) (hR : R.length = 256) (hB : B < 256) (hD : D < 256)
    (hn : R64 (R.getD B (0, 0)).1) (hp : R64 (R.getD D (0, 0)).1) (r : Bool × Int) (hap : testF (kd, bi, fr, ro, ov) n1 (R.getD B (0, 0)).1 (R.getD B (0, 0)).2 (R.getD D (0, 0)).1 (R.getD D (0, 0)).2 = r) :
    Calls Tryd.prog 52 #[.agg #[.slice ca cn cc, .slice ta tn tc, .int .i64 pc, .slice xa 256 xc, .slice ra 256 rc, .slice ma mn mc, .bool h], .agg #[.int .i64 14, .int .i64 A, .int .i64 (B : Int), .int .i64 (D : Int), .int .i64 n1, .int .i64 d, .int .i64 kd, .int .i64 bi, .int .i64 fr, .int .i64 ro, .int .i64 ov]] w fun e w' => e = .returned (.tuple #[.bool r.1, .int .i64 r.2]) ∧ Up w w' := by
  have HU : Hid (Up w ((w.alloc (.cells #[.slice ca cn cc, .slice ta tn tc, .int .i64 pc, .slice xa 256 xc, .slice ra 256 rc, .slice ma mn mc, .bool h] 50)).alloc (.cells #[.int .i64 14, .int .i64 A, .int .i64 (B : Int), .int .i64 (D : Int), .int .i64 n1, .int .i64 d, .int .i64 kd, .int .i64 bi, .int .i64 fr, .int .i64 ro, .int .i64 ov] 64))) := Lib.hid (((Up.refl w).alloc _).alloc _)
  have B0 : Hid (BoxC ((w.alloc (.cells #[.slice ca cn cc, .slice ta tn tc, .int .i64 pc, .slice xa 256 xc, .slice ra 256 rc, .slice ma mn mc, .bool h] 50)).alloc (.cells #[.int .i64 14, .int .i64 A, .int .i64 (B : Int), .int .i64 (D : Int), .int .i64 n1, .int .i64 d, .int .i64 kd, .int .i64 bi, .int .i64 fr, .int .i64 ro, .int .i64 ov] 64)) w.heap.size 50 #[.slice ca cn cc, .slice ta tn tc, .int .i64 pc, .slice xa 256 xc, .slice ra 256 rc, .slice ma mn mc, .bool h]) := Lib.hid ((BoxC.new w _ _).up ((Up.refl _).alloc _))
  have B1 : Hid (BoxC ((w.alloc (.cells #[.slice ca cn cc, .slice ta tn tc, .int .i64 pc, .slice xa 256 xc, .slice ra 256 rc, .slice ma mn mc, .bool h] 50)).alloc (.cells #[.int .i64 14, .int .i64 A, .int .i64 (B : Int), .int .i64 (D : Int), .int .i64 n1, .int .i64 d, .int .i64 kd, .int .i64 bi, .int .i64 fr, .int .i64 ro, .int .i64 ov] 64)) (w.heap.size + 1) 64 #[.int .i64 14, .int .i64 A, .int .i64 (B : Int), .int .i64 (D : Int), .int .i64 n1, .int .i64 d, .int .i64 kd, .int .i64 bi, .int .i64 fr, .int .i64 ro, .int .i64 ov]) := Lib.hid (BoxC.new2 w _ _ _)
  have HRW := Lib.hid hr
  have HLR := Lib.hid hR
  have hBI : (B : Int) < 256 := by omega
  have hDI : (D : Int) < 256 := by omega
  obtain ⟨bl, off, hxa, hbl, e0, e1⟩ := HRW.out.elem HU.out B (by rw [HLR.out]; exact hB) HLR.out rfl
  obtain ⟨bl', off', hxa', hbl', e2, e3⟩ := HRW.out.elem HU.out D (by rw [HLR.out]; exact hD) HLR.out rfl
  rw [hxa] at hxa'
  cases hxa'
  subst hxa
  clear hr hR HRW
  generalize (R.getD B (0, 0)).1 = a1 at *
  generalize (R.getD B (0, 0)).2 = a2 at *
  generalize (R.getD D (0, 0)).1 = b1 at *
  generalize (R.getD D (0, 0)).2 = b2 at *
  obtain ⟨va, hva⟩ : ∃ v, valV (kd, bi, fr, ro, ov) a1 a2 = v := ⟨_, rfl⟩
  obtain ⟨vb, hvb⟩ : ∃ v, valV (kd, bi, fr, ro, ov) b1 b2 = v := ⟨_, rfl⟩
  obtain ⟨c, hc⟩ : ∃ c, cmp4 (kd, bi, fr, ro, ov) a1 a2 b1 b2 = c := ⟨_, rfl⟩
  have HA := Lib.hid (fun x => r04_Valid (kd, bi, fr, ro, ov) a1 a2 hn va hva x)
  have HB := Lib.hid (fun x => r04_Valid (kd, bi, fr, ro, ov) b1 b2 hp vb hvb x)
  have HC := Lib.hid (fun x => r04_Compare (kd, bi, fr, ro, ov) a1 a2 b1 b2 hn hp c hc x)
  unfold testF at hap
  rw [hva, hvb, hc] at hap
  have HR := Lib.hid hap
  dsimp only [typV] at HA HB HC
  clear hap hva hvb hc hn hp
  go_enter Tryd.func52, Tryd.ntmps52
  go_wp2
  have hlb : bl < ((w.alloc (.cells #[.slice ca cn cc, .slice ta tn tc, .int .i64 pc, .slice xa 256 xc, .slice (some ⟨bl, off, none⟩) 256 rc, .slice ma mn mc, .bool h] 50)).alloc (.cells #[.int .i64 14, .int .i64 A, .int .i64 (B : Int), .int .i64 (D : Int), .int .i64 n1, .int .i64 d, .int .i64 kd, .int .i64 bi, .int .i64 fr, .int .i64 ro, .int .i64 ov] 64)).heap.size := Nat.lt_of_lt_of_le hbl HU.out.size
  generalize ((w.alloc (.cells #[.slice ca cn cc, .slice ta tn tc, .int .i64 pc, .slice xa 256 xc, .slice (some ⟨bl, off, none⟩) 256 rc, .slice ma mn mc, .bool h] 50)).alloc (.cells #[.int .i64 14, .int .i64 A, .int .i64 (B : Int), .int .i64 (D : Int), .int .i64 n1, .int .i64 d, .int .i64 kd, .int .i64 bi, .int .i64 fr, .int .i64 ro, .int .i64 ov] 64)) = y at *
  obtain ⟨p0, p1, p2, p3, p4, p5, p6⟩ := B0.out.seven
  have hI := B1.out
  have q1 : y.cell? ⟨w.heap.size + 1, 2, none⟩ = some (.int .i64 (B : Int)) := cell_of_row _ _ _ _ _ _ hI
  have q2 : y.cell? ⟨w.heap.size + 1, 3, none⟩ = some (.int .i64 (D : Int)) := cell_of_row _ _ _ _ _ _ hI
  clear hI
  have hs0 := B0.out.lt
  have hs1 := B1.out.lt
  go_cut [6, 7] from 9 to 21 (fun s6 s7 wx => TestCut y a1 a2 b1 b2 s6 s7 wx)
  case first =>
    go_region
    all_goals
      go_wp2_with fail
      go_meet
      first
        | exact ⟨y.heap.size, y.heap.size + 1, rfl, rfl, (((Up.refl y).alloc _).alloc _).drew, ((BoxC.new y 60 _).up ((Up.refl _).alloc _)).up (Up.refl _).drew, (BoxC.new2 y _ 60 _).up (Up.refl _).drew⟩
        | exact ⟨y.heap.size + 1, y.heap.size, rfl, rfl, (((Up.refl y).alloc _).alloc _).drew, (BoxC.new2 y _ 60 _).up (Up.refl _).drew, ((BoxC.new y 60 _).up ((Up.refl _).alloc _)).up (Up.refl _).drew⟩
  case rest =>
    obtain ⟨bp, bq, rfl, rfl, hUV, hBA, hBB⟩ := hcut
    have BA := Lib.hid hBA
    have BB := Lib.hid hBB
    have BI := Lib.hid (B1.out.up hUV)
    replace HU := Lib.hid (HU.out.trans hUV)
    clear hUV hBA hBB p0 p1 p2 p3 p4 p5 p6 q1 q2 e0 e1 e2 e3
    obtain ⟨x0, x1⟩ := BA.out.two
    obtain ⟨y0', y1'⟩ := BB.out.two
    have hI := BI.out
    have q4 : wc.cell? ⟨w.heap.size + 1, 4, none⟩ = some (.int .i64 n1) := cell_of_row _ _ _ _ _ _ hI
    have q6 : wc.cell? ⟨w.heap.size + 1, 6, none⟩ = some (.int .i64 kd) := cell_of_row _ _ _ _ _ _ hI
    have q7 : wc.cell? ⟨w.heap.size + 1, 7, none⟩ = some (.int .i64 bi) := cell_of_row _ _ _ _ _ _ hI
    have q8 : wc.cell? ⟨w.heap.size + 1, 8, none⟩ = some (.int .i64 fr) := cell_of_row _ _ _ _ _ _ hI
    have q9 : wc.cell? ⟨w.heap.size + 1, 9, none⟩ = some (.int .i64 ro) := cell_of_row _ _ _ _ _ _ hI
    have q10 : wc.cell? ⟨w.heap.size + 1, 10, none⟩ = some (.int .i64 ov) := cell_of_row _ _ _ _ _ _ hI
    clear hI
    cases va
    · obtain rfl : r = (false, 1) := by have := HR.out; simp at this; exact this.symm
      go_wp2_with (go_at_call 62; (first | (with_reducible refine (HA.out _).mono ?_) | (with_reducible refine (HB.out _).mono ?_)); rintro e u ⟨rfl, hx⟩; replace HU := Lib.hid (HU.out.trans hx); replace BA := Lib.hid (BA.out.up hx); replace BB := Lib.hid (BB.out.up hx); replace BI := Lib.hid (BI.out.up hx); clear hx x0 x1 y0' y1' q4 q6 q7 q8 q9 q10; obtain ⟨x0, x1⟩ := BA.out.two; obtain ⟨y0', y1'⟩ := BB.out.two; have hI := BI.out; have q4 : u.cell? ⟨w.heap.size + 1, 4, none⟩ = some (.int .i64 n1) := cell_of_row _ _ _ _ _ _ hI; have q6 : u.cell? ⟨w.heap.size + 1, 6, none⟩ = some (.int .i64 kd) := cell_of_row _ _ _ _ _ _ hI; have q7 : u.cell? ⟨w.heap.size + 1, 7, none⟩ = some (.int .i64 bi) := cell_of_row _ _ _ _ _ _ hI; have q8 : u.cell? ⟨w.heap.size + 1, 8, none⟩ = some (.int .i64 fr) := cell_of_row _ _ _ _ _ _ hI; have q9 : u.cell? ⟨w.heap.size + 1, 9, none⟩ = some (.int .i64 ro) := cell_of_row _ _ _ _ _ _ hI; have q10 : u.cell? ⟨w.heap.size + 1, 10, none⟩ = some (.int .i64 ov) := cell_of_row _ _ _ _ _ _ hI; clear hI)
      go_ret2
      exact ⟨rfl, HU.out⟩
    cases vb
    · obtain rfl : r = (false, 1) := by have := HR.out; simp at this; exact this.symm
      go_wp2_with (go_at_call 62; (first | (with_reducible refine (HA.out _).mono ?_) | (with_reducible refine (HB.out _).mono ?_)); rintro e u ⟨rfl, hx⟩; replace HU := Lib.hid (HU.out.trans hx); replace BA := Lib.hid (BA.out.up hx); replace BB := Lib.hid (BB.out.up hx); replace BI := Lib.hid (BI.out.up hx); clear hx x0 x1 y0' y1' q4 q6 q7 q8 q9 q10; obtain ⟨x0, x1⟩ := BA.out.two; obtain ⟨y0', y1'⟩ := BB.out.two; have hI := BI.out; have q4 : u.cell? ⟨w.heap.size + 1, 4, none⟩ = some (.int .i64 n1) := cell_of_row _ _ _ _ _ _ hI; have q6 : u.cell? ⟨w.heap.size + 1, 6, none⟩ = some (.int .i64 kd) := cell_of_row _ _ _ _ _ _ hI; have q7 : u.cell? ⟨w.heap.size + 1, 7, none⟩ = some (.int .i64 bi) := cell_of_row _ _ _ _ _ _ hI; have q8 : u.cell? ⟨w.heap.size + 1, 8, none⟩ = some (.int .i64 fr) := cell_of_row _ _ _ _ _ _ hI; have q9 : u.cell? ⟨w.heap.size + 1, 9, none⟩ = some (.int .i64 ro) := cell_of_row _ _ _ _ _ _ hI; have q10 : u.cell? ⟨w.heap.size + 1, 10, none⟩ = some (.int .i64 ov) := cell_of_row _ _ _ _ _ _ hI; clear hI)
      go_ret2
      exact ⟨rfl, HU.out⟩
    have HR2 : Hid ((decide ((c < 0 ∧ n1 ≠ 15) ∨ (c = 0 ∧ n1 ≠ 13)), (0 : Int)) = r) := Lib.hid (by have := HR.out; rw [if_neg (by simp)] at this; exact this)
    obtain ⟨r1, r2⟩ := r
    obtain ⟨hr1, hr2⟩ := Prod.mk.inj HR2.out
    have HR1 := Lib.hid hr1
    subst hr2
    clear hr1 HR HR2
    go_wp2_with (first | (go_at_call 62; (first | (with_reducible refine (HA.out _).mono ?_) | (with_reducible refine (HB.out _).mono ?_)); rintro e u ⟨rfl, hx⟩; replace HU := Lib.hid (HU.out.trans hx); replace BA := Lib.hid (BA.out.up hx); replace BB := Lib.hid (BB.out.up hx); replace BI := Lib.hid (BI.out.up hx); clear hx x0 x1 y0' y1' q4 q6 q7 q8 q9 q10; obtain ⟨x0, x1⟩ := BA.out.two; obtain ⟨y0', y1'⟩ := BB.out.two; have hI := BI.out; have q4 : u.cell? ⟨w.heap.size + 1, 4, none⟩ = some (.int .i64 n1) := cell_of_row _ _ _ _ _ _ hI; have q6 : u.cell? ⟨w.heap.size + 1, 6, none⟩ = some (.int .i64 kd) := cell_of_row _ _ _ _ _ _ hI; have q7 : u.cell? ⟨w.heap.size + 1, 7, none⟩ = some (.int .i64 bi) := cell_of_row _ _ _ _ _ _ hI; have q8 : u.cell? ⟨w.heap.size + 1, 8, none⟩ = some (.int .i64 fr) := cell_of_row _ _ _ _ _ _ hI; have q9 : u.cell? ⟨w.heap.size + 1, 9, none⟩ = some (.int .i64 ro) := cell_of_row _ _ _ _ _ _ hI; have q10 : u.cell? ⟨w.heap.size + 1, 10, none⟩ = some (.int .i64 ov) := cell_of_row _ _ _ _ _ _ hI; clear hI) | (go_at_call 63; refine (HC.out _).mono ?_; rintro e u ⟨rfl, hx⟩; replace HU := Lib.hid (HU.out.trans hx); replace BI := Lib.hid (BI.out.up hx); clear hx x0 x1 y0' y1' q4 q6 q7 q8 q9 q10; have hI := BI.out; have q4 : u.cell? ⟨w.heap.size + 1, 4, none⟩ = some (.int .i64 n1) := cell_of_row _ _ _ _ _ _ hI; have q6 : u.cell? ⟨w.heap.size + 1, 6, none⟩ = some (.int .i64 kd) := cell_of_row _ _ _ _ _ _ hI; have q7 : u.cell? ⟨w.heap.size + 1, 7, none⟩ = some (.int .i64 bi) := cell_of_row _ _ _ _ _ _ hI; have q8 : u.cell? ⟨w.heap.size + 1, 8, none⟩ = some (.int .i64 fr) := cell_of_row _ _ _ _ _ _ hI; have q9 : u.cell? ⟨w.heap.size + 1, 9, none⟩ = some (.int .i64 ro) := cell_of_row _ _ _ _ _ _ hI; have q10 : u.cell? ⟨w.heap.size + 1, 10, none⟩ = some (.int .i64 ov) := cell_of_row _ _ _ _ _ _ hI; clear hI))
    all_goals try simp only [Bool.not_eq_false', Bool.not_eq_true', bne_iff_ne, ne_eq, bne_eq_false_iff_eq, beq_iff_eq, beq_eq_false_iff_ne, decide_eq_true_eq, decide_eq_false_iff_not] at *
    all_goals
      go_ret2
      exact ⟨by rw [← HR1.out]; congr 3; first | rfl | (rw [Bool.eq_iff_iff]; simp [*]; done) | (rw [Bool.eq_iff_iff]; simp [*]; omega) | (simp [*]; done) | (simp [*]; rw [Bool.eq_iff_iff]; simp; done) | (simp [*]; omega), HU.out⟩
end Go.Proofs.YtbpojmhgifgfdaaDoor
