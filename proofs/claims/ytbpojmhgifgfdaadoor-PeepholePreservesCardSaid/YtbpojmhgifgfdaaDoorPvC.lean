/-
  The reference 01: Add, Sub, Mul, Div, Neg, Compare. Printed by mkPvC.py.
-/
import Derived.Test.YtbpojmhgifgfdaaDoorPvB
namespace Go.Proofs.YtbpojmhgifgfdaaDoor
open Go.ChangeShapes Go.WideShapes Go.ChangeAt Go.RowKit
set_option linter.unusedVariables false
set_option linter.unusedSimpArgs false
set_option maxRecDepth 100000

def addF (n d p q : Int) : Int × Int × Int := if validF n d && validF p q then newF (wrap64 (wrap64 (n * q) + wrap64 (p * d))) (wrap64 (d * q)) else (0, 0, 1)
set_option maxHeartbeats 4000000 in
theorem r01_Add (n d p q : Int) (hn : R64 n) (hp : R64 p) (r : Int × Int × Int) (hr : addF n d p q = r) (w : World) :
    Calls Tryd.prog 76 #[.agg #[.int .i64 n, .int .i64 d], .agg #[.int .i64 p, .int .i64 q]] w fun e w' => e = .returned (.tuple #[.agg #[.int .i64 r.1, .int .i64 r.2.1], .int .i64 r.2.2]) ∧ Up w w' := by
  obtain ⟨va, hva⟩ : ∃ v, validF n d = v := ⟨_, rfl⟩
  obtain ⟨vb, hvb⟩ : ∃ v, validF p q = v := ⟨_, rfl⟩
  have HA := Lib.hid (fun w => r01_Valid n d hn va hva w)
  have HB := Lib.hid (fun w => r01_Valid p q hp vb hvb w)
  unfold addF at hr
  rw [hva, hvb] at hr
  have HR := Lib.hid hr
  have HN : Hid (va = true → vb = true → ∀ w, Calls Tryd.prog 89 #[.int .i64 (wrap64 (wrap64 (n * q) + wrap64 (p * d))), .int .i64 (wrap64 (d * q))] w fun e w' => e = .returned (.tuple #[.agg #[.int .i64 r.1, .int .i64 r.2.1], .int .i64 r.2.2]) ∧ Up w w') := Lib.hid (fun h1 h2 w => r01_New _ _ (r64_wrap _) (r64_wrap _) r (by rw [← HR.out, h1, h2]; rfl) w)
  clear hva hvb hr hn hp
  have HU : Hid (Up w (((w.alloc (.cells #[.int .i64 n, .int .i64 d] 60)).alloc (.cells #[.int .i64 p, .int .i64 q] 60)).alloc (.cells #[.int .i64 0, .int .i64 0] 60))) := Lib.hid ((((Up.refl w).alloc _).alloc _).alloc _)
  have B0 : Hid (BoxC (((w.alloc (.cells #[.int .i64 n, .int .i64 d] 60)).alloc (.cells #[.int .i64 p, .int .i64 q] 60)).alloc (.cells #[.int .i64 0, .int .i64 0] 60)) w.heap.size 60 #[.int .i64 n, .int .i64 d]) := Lib.hid ((BoxC.new w _ _).up (((Up.refl _).alloc _).alloc _))
  have B1 : Hid (BoxC (((w.alloc (.cells #[.int .i64 n, .int .i64 d] 60)).alloc (.cells #[.int .i64 p, .int .i64 q] 60)).alloc (.cells #[.int .i64 0, .int .i64 0] 60)) (w.heap.size + 1) 60 #[.int .i64 p, .int .i64 q]) := Lib.hid ((BoxC.new2 w _ _ _).up ((Up.refl _).alloc _))
  have B2 : Hid (BoxC (((w.alloc (.cells #[.int .i64 n, .int .i64 d] 60)).alloc (.cells #[.int .i64 p, .int .i64 q] 60)).alloc (.cells #[.int .i64 0, .int .i64 0] 60)) (w.heap.size + 2) 60 #[.int .i64 0, .int .i64 0]) := Lib.hid (BoxC.new3 w _ _ _ _)
  obtain ⟨a0, a1⟩ := B0.out.two
  obtain ⟨b0, b1⟩ := B1.out.two
  cases va
  · obtain rfl : r = (0, 0, 1) := HR.out.symm
    go_enter Tryd.func76, Tryd.ntmps76
    go_wp2_with (go_at_call 87; (first | (with_reducible refine (HA.out _).mono ?_) | (with_reducible refine (HB.out _).mono ?_)); rintro e x ⟨rfl, hx⟩; replace HU := Lib.hid (HU.out.trans hx); replace B0 := Lib.hid (B0.out.up hx); replace B1 := Lib.hid (B1.out.up hx); replace B2 := Lib.hid (B2.out.up hx); clear hx a0 a1 b0 b1; obtain ⟨a0, a1⟩ := B0.out.two; obtain ⟨b0, b1⟩ := B1.out.two; obtain ⟨z0, z1⟩ := B2.out.two; have zf := B2.out.frozen)
    all_goals
      refine bodyPost_ret (v := .tuple #[.agg #[.int .i64 0, .int .i64 0], .int .i64 1]) (by simp [results, Tryd.results76, go_sem, *]) rfl ?_
      exact ⟨rfl, (HU.out.setCell (p := ⟨w.heap.size + 2, 0, none⟩) (by show w.heap.size ≤ w.heap.size + 2; omega) _).setCell (p := ⟨w.heap.size + 2, 1, none⟩) (by show w.heap.size ≤ w.heap.size + 2; omega) _⟩
  cases vb
  · obtain rfl : r = (0, 0, 1) := HR.out.symm
    go_enter Tryd.func76, Tryd.ntmps76
    go_wp2_with (go_at_call 87; (first | (with_reducible refine (HA.out _).mono ?_) | (with_reducible refine (HB.out _).mono ?_)); rintro e x ⟨rfl, hx⟩; replace HU := Lib.hid (HU.out.trans hx); replace B0 := Lib.hid (B0.out.up hx); replace B1 := Lib.hid (B1.out.up hx); replace B2 := Lib.hid (B2.out.up hx); clear hx a0 a1 b0 b1; obtain ⟨a0, a1⟩ := B0.out.two; obtain ⟨b0, b1⟩ := B1.out.two; obtain ⟨z0, z1⟩ := B2.out.two; have zf := B2.out.frozen)
    all_goals
      refine bodyPost_ret (v := .tuple #[.agg #[.int .i64 0, .int .i64 0], .int .i64 1]) (by simp [results, Tryd.results76, go_sem, *]) rfl ?_
      exact ⟨rfl, (HU.out.setCell (p := ⟨w.heap.size + 2, 0, none⟩) (by show w.heap.size ≤ w.heap.size + 2; omega) _).setCell (p := ⟨w.heap.size + 2, 1, none⟩) (by show w.heap.size ≤ w.heap.size + 2; omega) _⟩
  · replace HN := Lib.hid (HN.out rfl rfl)
    go_enter Tryd.func76, Tryd.ntmps76
    go_wp2_with (first | (go_at_call 87; (first | (with_reducible refine (HA.out _).mono ?_) | (with_reducible refine (HB.out _).mono ?_)); rintro e x ⟨rfl, hx⟩; replace HU := Lib.hid (HU.out.trans hx); replace B0 := Lib.hid (B0.out.up hx); replace B1 := Lib.hid (B1.out.up hx); replace B2 := Lib.hid (B2.out.up hx); clear hx a0 a1 b0 b1; obtain ⟨a0, a1⟩ := B0.out.two; obtain ⟨b0, b1⟩ := B1.out.two; obtain ⟨z0, z1⟩ := B2.out.two; have zf := B2.out.frozen) | (go_at_call 89; refine (HN.out _).mono ?_; rintro e x ⟨rfl, hx⟩; replace HU := Lib.hid (HU.out.trans hx); replace B2 := Lib.hid (B2.out.up hx); clear hx z0 z1 zf; obtain ⟨z0, z1⟩ := B2.out.two; have zf := B2.out.frozen))
    all_goals
      refine bodyPost_ret (v := .tuple #[.agg #[.int .i64 r.1, .int .i64 r.2.1], .int .i64 r.2.2]) (by simp [results, Tryd.results76, go_sem, *]) rfl ?_
      exact ⟨rfl, (HU.out.setCell (p := ⟨w.heap.size + 2, 0, none⟩) (by show w.heap.size ≤ w.heap.size + 2; omega) _).setCell (p := ⟨w.heap.size + 2, 1, none⟩) (by show w.heap.size ≤ w.heap.size + 2; omega) _⟩

def subF (n d p q : Int) : Int × Int × Int := if validF n d && validF p q then newF (wrap64 (wrap64 (n * q) - wrap64 (p * d))) (wrap64 (d * q)) else (0, 0, 1)
set_option maxHeartbeats 4000000 in
theorem r01_Sub (n d p q : Int) (hn : R64 n) (hp : R64 p) (r : Int × Int × Int) (hr : subF n d p q = r) (w : World) :
    Calls Tryd.prog 77 #[.agg #[.int .i64 n, .int .i64 d], .agg #[.int .i64 p, .int .i64 q]] w fun e w' => e = .returned (.tuple #[.agg #[.int .i64 r.1, .int .i64 r.2.1], .int .i64 r.2.2]) ∧ Up w w' := by
  obtain ⟨va, hva⟩ : ∃ v, validF n d = v := ⟨_, rfl⟩
  obtain ⟨vb, hvb⟩ : ∃ v, validF p q = v := ⟨_, rfl⟩
  have HA := Lib.hid (fun w => r01_Valid n d hn va hva w)
  have HB := Lib.hid (fun w => r01_Valid p q hp vb hvb w)
  unfold subF at hr
  rw [hva, hvb] at hr
  have HR := Lib.hid hr
  have HN : Hid (va = true → vb = true → ∀ w, Calls Tryd.prog 89 #[.int .i64 (wrap64 (wrap64 (n * q) - wrap64 (p * d))), .int .i64 (wrap64 (d * q))] w fun e w' => e = .returned (.tuple #[.agg #[.int .i64 r.1, .int .i64 r.2.1], .int .i64 r.2.2]) ∧ Up w w') := Lib.hid (fun h1 h2 w => r01_New _ _ (r64_wrap _) (r64_wrap _) r (by rw [← HR.out, h1, h2]; rfl) w)
  clear hva hvb hr hn hp
  have HU : Hid (Up w (((w.alloc (.cells #[.int .i64 n, .int .i64 d] 60)).alloc (.cells #[.int .i64 p, .int .i64 q] 60)).alloc (.cells #[.int .i64 0, .int .i64 0] 60))) := Lib.hid ((((Up.refl w).alloc _).alloc _).alloc _)
  have B0 : Hid (BoxC (((w.alloc (.cells #[.int .i64 n, .int .i64 d] 60)).alloc (.cells #[.int .i64 p, .int .i64 q] 60)).alloc (.cells #[.int .i64 0, .int .i64 0] 60)) w.heap.size 60 #[.int .i64 n, .int .i64 d]) := Lib.hid ((BoxC.new w _ _).up (((Up.refl _).alloc _).alloc _))
  have B1 : Hid (BoxC (((w.alloc (.cells #[.int .i64 n, .int .i64 d] 60)).alloc (.cells #[.int .i64 p, .int .i64 q] 60)).alloc (.cells #[.int .i64 0, .int .i64 0] 60)) (w.heap.size + 1) 60 #[.int .i64 p, .int .i64 q]) := Lib.hid ((BoxC.new2 w _ _ _).up ((Up.refl _).alloc _))
  have B2 : Hid (BoxC (((w.alloc (.cells #[.int .i64 n, .int .i64 d] 60)).alloc (.cells #[.int .i64 p, .int .i64 q] 60)).alloc (.cells #[.int .i64 0, .int .i64 0] 60)) (w.heap.size + 2) 60 #[.int .i64 0, .int .i64 0]) := Lib.hid (BoxC.new3 w _ _ _ _)
  obtain ⟨a0, a1⟩ := B0.out.two
  obtain ⟨b0, b1⟩ := B1.out.two
  cases va
  · obtain rfl : r = (0, 0, 1) := HR.out.symm
    go_enter Tryd.func77, Tryd.ntmps77
    go_wp2_with (go_at_call 87; (first | (with_reducible refine (HA.out _).mono ?_) | (with_reducible refine (HB.out _).mono ?_)); rintro e x ⟨rfl, hx⟩; replace HU := Lib.hid (HU.out.trans hx); replace B0 := Lib.hid (B0.out.up hx); replace B1 := Lib.hid (B1.out.up hx); replace B2 := Lib.hid (B2.out.up hx); clear hx a0 a1 b0 b1; obtain ⟨a0, a1⟩ := B0.out.two; obtain ⟨b0, b1⟩ := B1.out.two; obtain ⟨z0, z1⟩ := B2.out.two; have zf := B2.out.frozen)
    all_goals
      refine bodyPost_ret (v := .tuple #[.agg #[.int .i64 0, .int .i64 0], .int .i64 1]) (by simp [results, Tryd.results77, go_sem, *]) rfl ?_
      exact ⟨rfl, (HU.out.setCell (p := ⟨w.heap.size + 2, 0, none⟩) (by show w.heap.size ≤ w.heap.size + 2; omega) _).setCell (p := ⟨w.heap.size + 2, 1, none⟩) (by show w.heap.size ≤ w.heap.size + 2; omega) _⟩
  cases vb
  · obtain rfl : r = (0, 0, 1) := HR.out.symm
    go_enter Tryd.func77, Tryd.ntmps77
    go_wp2_with (go_at_call 87; (first | (with_reducible refine (HA.out _).mono ?_) | (with_reducible refine (HB.out _).mono ?_)); rintro e x ⟨rfl, hx⟩; replace HU := Lib.hid (HU.out.trans hx); replace B0 := Lib.hid (B0.out.up hx); replace B1 := Lib.hid (B1.out.up hx); replace B2 := Lib.hid (B2.out.up hx); clear hx a0 a1 b0 b1; obtain ⟨a0, a1⟩ := B0.out.two; obtain ⟨b0, b1⟩ := B1.out.two; obtain ⟨z0, z1⟩ := B2.out.two; have zf := B2.out.frozen)
    all_goals
      refine bodyPost_ret (v := .tuple #[.agg #[.int .i64 0, .int .i64 0], .int .i64 1]) (by simp [results, Tryd.results77, go_sem, *]) rfl ?_
      exact ⟨rfl, (HU.out.setCell (p := ⟨w.heap.size + 2, 0, none⟩) (by show w.heap.size ≤ w.heap.size + 2; omega) _).setCell (p := ⟨w.heap.size + 2, 1, none⟩) (by show w.heap.size ≤ w.heap.size + 2; omega) _⟩
  · replace HN := Lib.hid (HN.out rfl rfl)
    go_enter Tryd.func77, Tryd.ntmps77
    go_wp2_with (first | (go_at_call 87; (first | (with_reducible refine (HA.out _).mono ?_) | (with_reducible refine (HB.out _).mono ?_)); rintro e x ⟨rfl, hx⟩; replace HU := Lib.hid (HU.out.trans hx); replace B0 := Lib.hid (B0.out.up hx); replace B1 := Lib.hid (B1.out.up hx); replace B2 := Lib.hid (B2.out.up hx); clear hx a0 a1 b0 b1; obtain ⟨a0, a1⟩ := B0.out.two; obtain ⟨b0, b1⟩ := B1.out.two; obtain ⟨z0, z1⟩ := B2.out.two; have zf := B2.out.frozen) | (go_at_call 89; refine (HN.out _).mono ?_; rintro e x ⟨rfl, hx⟩; replace HU := Lib.hid (HU.out.trans hx); replace B2 := Lib.hid (B2.out.up hx); clear hx z0 z1 zf; obtain ⟨z0, z1⟩ := B2.out.two; have zf := B2.out.frozen))
    all_goals
      refine bodyPost_ret (v := .tuple #[.agg #[.int .i64 r.1, .int .i64 r.2.1], .int .i64 r.2.2]) (by simp [results, Tryd.results77, go_sem, *]) rfl ?_
      exact ⟨rfl, (HU.out.setCell (p := ⟨w.heap.size + 2, 0, none⟩) (by show w.heap.size ≤ w.heap.size + 2; omega) _).setCell (p := ⟨w.heap.size + 2, 1, none⟩) (by show w.heap.size ≤ w.heap.size + 2; omega) _⟩

def mulF (n d p q : Int) : Int × Int × Int := if validF n d && validF p q then newF (wrap64 (n * p)) (wrap64 (d * q)) else (0, 0, 1)
set_option maxHeartbeats 4000000 in
theorem r01_Mul (n d p q : Int) (hn : R64 n) (hp : R64 p) (r : Int × Int × Int) (hr : mulF n d p q = r) (w : World) :
    Calls Tryd.prog 78 #[.agg #[.int .i64 n, .int .i64 d], .agg #[.int .i64 p, .int .i64 q]] w fun e w' => e = .returned (.tuple #[.agg #[.int .i64 r.1, .int .i64 r.2.1], .int .i64 r.2.2]) ∧ Up w w' := by
  obtain ⟨va, hva⟩ : ∃ v, validF n d = v := ⟨_, rfl⟩
  obtain ⟨vb, hvb⟩ : ∃ v, validF p q = v := ⟨_, rfl⟩
  have HA := Lib.hid (fun w => r01_Valid n d hn va hva w)
  have HB := Lib.hid (fun w => r01_Valid p q hp vb hvb w)
  unfold mulF at hr
  rw [hva, hvb] at hr
  have HR := Lib.hid hr
  have HN : Hid (va = true → vb = true → ∀ w, Calls Tryd.prog 89 #[.int .i64 (wrap64 (n * p)), .int .i64 (wrap64 (d * q))] w fun e w' => e = .returned (.tuple #[.agg #[.int .i64 r.1, .int .i64 r.2.1], .int .i64 r.2.2]) ∧ Up w w') := Lib.hid (fun h1 h2 w => r01_New _ _ (r64_wrap _) (r64_wrap _) r (by rw [← HR.out, h1, h2]; rfl) w)
  clear hva hvb hr hn hp
  have HU : Hid (Up w (((w.alloc (.cells #[.int .i64 n, .int .i64 d] 60)).alloc (.cells #[.int .i64 p, .int .i64 q] 60)).alloc (.cells #[.int .i64 0, .int .i64 0] 60))) := Lib.hid ((((Up.refl w).alloc _).alloc _).alloc _)
  have B0 : Hid (BoxC (((w.alloc (.cells #[.int .i64 n, .int .i64 d] 60)).alloc (.cells #[.int .i64 p, .int .i64 q] 60)).alloc (.cells #[.int .i64 0, .int .i64 0] 60)) w.heap.size 60 #[.int .i64 n, .int .i64 d]) := Lib.hid ((BoxC.new w _ _).up (((Up.refl _).alloc _).alloc _))
  have B1 : Hid (BoxC (((w.alloc (.cells #[.int .i64 n, .int .i64 d] 60)).alloc (.cells #[.int .i64 p, .int .i64 q] 60)).alloc (.cells #[.int .i64 0, .int .i64 0] 60)) (w.heap.size + 1) 60 #[.int .i64 p, .int .i64 q]) := Lib.hid ((BoxC.new2 w _ _ _).up ((Up.refl _).alloc _))
  have B2 : Hid (BoxC (((w.alloc (.cells #[.int .i64 n, .int .i64 d] 60)).alloc (.cells #[.int .i64 p, .int .i64 q] 60)).alloc (.cells #[.int .i64 0, .int .i64 0] 60)) (w.heap.size + 2) 60 #[.int .i64 0, .int .i64 0]) := Lib.hid (BoxC.new3 w _ _ _ _)
  obtain ⟨a0, a1⟩ := B0.out.two
  obtain ⟨b0, b1⟩ := B1.out.two
  cases va
  · obtain rfl : r = (0, 0, 1) := HR.out.symm
    go_enter Tryd.func78, Tryd.ntmps78
    go_wp2_with (go_at_call 87; (first | (with_reducible refine (HA.out _).mono ?_) | (with_reducible refine (HB.out _).mono ?_)); rintro e x ⟨rfl, hx⟩; replace HU := Lib.hid (HU.out.trans hx); replace B0 := Lib.hid (B0.out.up hx); replace B1 := Lib.hid (B1.out.up hx); replace B2 := Lib.hid (B2.out.up hx); clear hx a0 a1 b0 b1; obtain ⟨a0, a1⟩ := B0.out.two; obtain ⟨b0, b1⟩ := B1.out.two; obtain ⟨z0, z1⟩ := B2.out.two; have zf := B2.out.frozen)
    all_goals
      refine bodyPost_ret (v := .tuple #[.agg #[.int .i64 0, .int .i64 0], .int .i64 1]) (by simp [results, Tryd.results78, go_sem, *]) rfl ?_
      exact ⟨rfl, (HU.out.setCell (p := ⟨w.heap.size + 2, 0, none⟩) (by show w.heap.size ≤ w.heap.size + 2; omega) _).setCell (p := ⟨w.heap.size + 2, 1, none⟩) (by show w.heap.size ≤ w.heap.size + 2; omega) _⟩
  cases vb
  · obtain rfl : r = (0, 0, 1) := HR.out.symm
    go_enter Tryd.func78, Tryd.ntmps78
    go_wp2_with (go_at_call 87; (first | (with_reducible refine (HA.out _).mono ?_) | (with_reducible refine (HB.out _).mono ?_)); rintro e x ⟨rfl, hx⟩; replace HU := Lib.hid (HU.out.trans hx); replace B0 := Lib.hid (B0.out.up hx); replace B1 := Lib.hid (B1.out.up hx); replace B2 := Lib.hid (B2.out.up hx); clear hx a0 a1 b0 b1; obtain ⟨a0, a1⟩ := B0.out.two; obtain ⟨b0, b1⟩ := B1.out.two; obtain ⟨z0, z1⟩ := B2.out.two; have zf := B2.out.frozen)
    all_goals
      refine bodyPost_ret (v := .tuple #[.agg #[.int .i64 0, .int .i64 0], .int .i64 1]) (by simp [results, Tryd.results78, go_sem, *]) rfl ?_
      exact ⟨rfl, (HU.out.setCell (p := ⟨w.heap.size + 2, 0, none⟩) (by show w.heap.size ≤ w.heap.size + 2; omega) _).setCell (p := ⟨w.heap.size + 2, 1, none⟩) (by show w.heap.size ≤ w.heap.size + 2; omega) _⟩
  · replace HN := Lib.hid (HN.out rfl rfl)
    go_enter Tryd.func78, Tryd.ntmps78
    go_wp2_with (first | (go_at_call 87; (first | (with_reducible refine (HA.out _).mono ?_) | (with_reducible refine (HB.out _).mono ?_)); rintro e x ⟨rfl, hx⟩; replace HU := Lib.hid (HU.out.trans hx); replace B0 := Lib.hid (B0.out.up hx); replace B1 := Lib.hid (B1.out.up hx); replace B2 := Lib.hid (B2.out.up hx); clear hx a0 a1 b0 b1; obtain ⟨a0, a1⟩ := B0.out.two; obtain ⟨b0, b1⟩ := B1.out.two; obtain ⟨z0, z1⟩ := B2.out.two; have zf := B2.out.frozen) | (go_at_call 89; refine (HN.out _).mono ?_; rintro e x ⟨rfl, hx⟩; replace HU := Lib.hid (HU.out.trans hx); replace B2 := Lib.hid (B2.out.up hx); clear hx z0 z1 zf; obtain ⟨z0, z1⟩ := B2.out.two; have zf := B2.out.frozen))
    all_goals
      refine bodyPost_ret (v := .tuple #[.agg #[.int .i64 r.1, .int .i64 r.2.1], .int .i64 r.2.2]) (by simp [results, Tryd.results78, go_sem, *]) rfl ?_
      exact ⟨rfl, (HU.out.setCell (p := ⟨w.heap.size + 2, 0, none⟩) (by show w.heap.size ≤ w.heap.size + 2; omega) _).setCell (p := ⟨w.heap.size + 2, 1, none⟩) (by show w.heap.size ≤ w.heap.size + 2; omega) _⟩

def divF (n d p q : Int) : Int × Int × Int := if validF n d && validF p q then newF (wrap64 (n * q)) (wrap64 (d * p)) else (0, 0, 1)
set_option maxHeartbeats 4000000 in
theorem r01_Div (n d p q : Int) (hn : R64 n) (hp : R64 p) (r : Int × Int × Int) (hr : divF n d p q = r) (w : World) :
    Calls Tryd.prog 79 #[.agg #[.int .i64 n, .int .i64 d], .agg #[.int .i64 p, .int .i64 q]] w fun e w' => e = .returned (.tuple #[.agg #[.int .i64 r.1, .int .i64 r.2.1], .int .i64 r.2.2]) ∧ Up w w' := by
  obtain ⟨va, hva⟩ : ∃ v, validF n d = v := ⟨_, rfl⟩
  obtain ⟨vb, hvb⟩ : ∃ v, validF p q = v := ⟨_, rfl⟩
  have HA := Lib.hid (fun w => r01_Valid n d hn va hva w)
  have HB := Lib.hid (fun w => r01_Valid p q hp vb hvb w)
  unfold divF at hr
  rw [hva, hvb] at hr
  have HR := Lib.hid hr
  have HN : Hid (va = true → vb = true → ∀ w, Calls Tryd.prog 89 #[.int .i64 (wrap64 (n * q)), .int .i64 (wrap64 (d * p))] w fun e w' => e = .returned (.tuple #[.agg #[.int .i64 r.1, .int .i64 r.2.1], .int .i64 r.2.2]) ∧ Up w w') := Lib.hid (fun h1 h2 w => r01_New _ _ (r64_wrap _) (r64_wrap _) r (by rw [← HR.out, h1, h2]; rfl) w)
  clear hva hvb hr hn hp
  have HU : Hid (Up w (((w.alloc (.cells #[.int .i64 n, .int .i64 d] 60)).alloc (.cells #[.int .i64 p, .int .i64 q] 60)).alloc (.cells #[.int .i64 0, .int .i64 0] 60))) := Lib.hid ((((Up.refl w).alloc _).alloc _).alloc _)
  have B0 : Hid (BoxC (((w.alloc (.cells #[.int .i64 n, .int .i64 d] 60)).alloc (.cells #[.int .i64 p, .int .i64 q] 60)).alloc (.cells #[.int .i64 0, .int .i64 0] 60)) w.heap.size 60 #[.int .i64 n, .int .i64 d]) := Lib.hid ((BoxC.new w _ _).up (((Up.refl _).alloc _).alloc _))
  have B1 : Hid (BoxC (((w.alloc (.cells #[.int .i64 n, .int .i64 d] 60)).alloc (.cells #[.int .i64 p, .int .i64 q] 60)).alloc (.cells #[.int .i64 0, .int .i64 0] 60)) (w.heap.size + 1) 60 #[.int .i64 p, .int .i64 q]) := Lib.hid ((BoxC.new2 w _ _ _).up ((Up.refl _).alloc _))
  have B2 : Hid (BoxC (((w.alloc (.cells #[.int .i64 n, .int .i64 d] 60)).alloc (.cells #[.int .i64 p, .int .i64 q] 60)).alloc (.cells #[.int .i64 0, .int .i64 0] 60)) (w.heap.size + 2) 60 #[.int .i64 0, .int .i64 0]) := Lib.hid (BoxC.new3 w _ _ _ _)
  obtain ⟨a0, a1⟩ := B0.out.two
  obtain ⟨b0, b1⟩ := B1.out.two
  cases va
  · obtain rfl : r = (0, 0, 1) := HR.out.symm
    go_enter Tryd.func79, Tryd.ntmps79
    go_wp2_with (go_at_call 87; (first | (with_reducible refine (HA.out _).mono ?_) | (with_reducible refine (HB.out _).mono ?_)); rintro e x ⟨rfl, hx⟩; replace HU := Lib.hid (HU.out.trans hx); replace B0 := Lib.hid (B0.out.up hx); replace B1 := Lib.hid (B1.out.up hx); replace B2 := Lib.hid (B2.out.up hx); clear hx a0 a1 b0 b1; obtain ⟨a0, a1⟩ := B0.out.two; obtain ⟨b0, b1⟩ := B1.out.two; obtain ⟨z0, z1⟩ := B2.out.two; have zf := B2.out.frozen)
    all_goals
      refine bodyPost_ret (v := .tuple #[.agg #[.int .i64 0, .int .i64 0], .int .i64 1]) (by simp [results, Tryd.results79, go_sem, *]) rfl ?_
      exact ⟨rfl, (HU.out.setCell (p := ⟨w.heap.size + 2, 0, none⟩) (by show w.heap.size ≤ w.heap.size + 2; omega) _).setCell (p := ⟨w.heap.size + 2, 1, none⟩) (by show w.heap.size ≤ w.heap.size + 2; omega) _⟩
  cases vb
  · obtain rfl : r = (0, 0, 1) := HR.out.symm
    go_enter Tryd.func79, Tryd.ntmps79
    go_wp2_with (go_at_call 87; (first | (with_reducible refine (HA.out _).mono ?_) | (with_reducible refine (HB.out _).mono ?_)); rintro e x ⟨rfl, hx⟩; replace HU := Lib.hid (HU.out.trans hx); replace B0 := Lib.hid (B0.out.up hx); replace B1 := Lib.hid (B1.out.up hx); replace B2 := Lib.hid (B2.out.up hx); clear hx a0 a1 b0 b1; obtain ⟨a0, a1⟩ := B0.out.two; obtain ⟨b0, b1⟩ := B1.out.two; obtain ⟨z0, z1⟩ := B2.out.two; have zf := B2.out.frozen)
    all_goals
      refine bodyPost_ret (v := .tuple #[.agg #[.int .i64 0, .int .i64 0], .int .i64 1]) (by simp [results, Tryd.results79, go_sem, *]) rfl ?_
      exact ⟨rfl, (HU.out.setCell (p := ⟨w.heap.size + 2, 0, none⟩) (by show w.heap.size ≤ w.heap.size + 2; omega) _).setCell (p := ⟨w.heap.size + 2, 1, none⟩) (by show w.heap.size ≤ w.heap.size + 2; omega) _⟩
  · replace HN := Lib.hid (HN.out rfl rfl)
    go_enter Tryd.func79, Tryd.ntmps79
    go_wp2_with (first | (go_at_call 87; (first | (with_reducible refine (HA.out _).mono ?_) | (with_reducible refine (HB.out _).mono ?_)); rintro e x ⟨rfl, hx⟩; replace HU := Lib.hid (HU.out.trans hx); replace B0 := Lib.hid (B0.out.up hx); replace B1 := Lib.hid (B1.out.up hx); replace B2 := Lib.hid (B2.out.up hx); clear hx a0 a1 b0 b1; obtain ⟨a0, a1⟩ := B0.out.two; obtain ⟨b0, b1⟩ := B1.out.two; obtain ⟨z0, z1⟩ := B2.out.two; have zf := B2.out.frozen) | (go_at_call 89; refine (HN.out _).mono ?_; rintro e x ⟨rfl, hx⟩; replace HU := Lib.hid (HU.out.trans hx); replace B2 := Lib.hid (B2.out.up hx); clear hx z0 z1 zf; obtain ⟨z0, z1⟩ := B2.out.two; have zf := B2.out.frozen))
    all_goals
      refine bodyPost_ret (v := .tuple #[.agg #[.int .i64 r.1, .int .i64 r.2.1], .int .i64 r.2.2]) (by simp [results, Tryd.results79, go_sem, *]) rfl ?_
      exact ⟨rfl, (HU.out.setCell (p := ⟨w.heap.size + 2, 0, none⟩) (by show w.heap.size ≤ w.heap.size + 2; omega) _).setCell (p := ⟨w.heap.size + 2, 1, none⟩) (by show w.heap.size ≤ w.heap.size + 2; omega) _⟩

def negF (n d : Int) : Int × Int := if validF n d then (wrap64 (-n), d) else (0, 0)
set_option maxHeartbeats 4000000 in
theorem r01_Neg (n d : Int) (hn : R64 n) (r : Int × Int) (hr : negF n d = r) (w : World) :
    Calls Tryd.prog 80 #[.agg #[.int .i64 n, .int .i64 d]] w fun e w' => e = .returned (.agg #[.int .i64 r.1, .int .i64 r.2]) ∧ Up w w' := by
  obtain ⟨va, hva⟩ : ∃ v, validF n d = v := ⟨_, rfl⟩
  have HA := Lib.hid (fun w => r01_Valid n d hn va hva w)
  unfold negF at hr
  rw [hva] at hr
  have HR := Lib.hid hr
  clear hva hr hn
  have HU : Hid (Up w ((w.alloc (.cells #[.int .i64 n, .int .i64 d] 60)).alloc (.cells #[.int .i64 0, .int .i64 0] 60))) := Lib.hid (((Up.refl w).alloc _).alloc _)
  have B0 : Hid (BoxC ((w.alloc (.cells #[.int .i64 n, .int .i64 d] 60)).alloc (.cells #[.int .i64 0, .int .i64 0] 60)) w.heap.size 60 #[.int .i64 n, .int .i64 d]) := Lib.hid ((BoxC.new w _ _).up ((Up.refl _).alloc _))
  have B2 : Hid (BoxC ((w.alloc (.cells #[.int .i64 n, .int .i64 d] 60)).alloc (.cells #[.int .i64 0, .int .i64 0] 60)) (w.heap.size + 1) 60 #[.int .i64 0, .int .i64 0]) := Lib.hid (BoxC.new2 w _ _ _)
  cases va
  all_goals
    go_enter Tryd.func80, Tryd.ntmps80
    go_wp2_with (go_at_call 87; refine (HA.out _).mono ?_; rintro e x ⟨rfl, hx⟩; replace HU := Lib.hid (HU.out.trans hx); replace B0 := Lib.hid (B0.out.up hx); replace B2 := Lib.hid (B2.out.up hx); clear hx; obtain ⟨a0, a1⟩ := B0.out.two; obtain ⟨z0, z1⟩ := B2.out.two; have zf := B2.out.frozen)
    all_goals
      refine bodyPost_ret (v := .agg #[.int .i64 r.1, .int .i64 r.2]) (by rw [← HR.out]; simp [results, Tryd.results80, go_sem, *]) rfl ?_
      exact ⟨rfl, (HU.out.setCell (p := ⟨w.heap.size + 1, 0, none⟩) (by show w.heap.size ≤ w.heap.size + 1; omega) _).setCell (p := ⟨w.heap.size + 1, 1, none⟩) (by show w.heap.size ≤ w.heap.size + 1; omega) _⟩

def cmpF (n d p q : Int) : Int := if validF n d && validF p q then ordF (wrap64 (n * q)) (wrap64 (p * d)) else if n = p then ordF d q else ordF n p
set_option maxHeartbeats 4000000 in
theorem r01_Compare (n d p q : Int) (hn : R64 n) (hp : R64 p) (r : Int) (hr : cmpF n d p q = r) (w : World) :
    Calls Tryd.prog 73 #[.agg #[.int .i64 n, .int .i64 d], .agg #[.int .i64 p, .int .i64 q]] w fun e w' => e = .returned (.int .i64 r) ∧ Up w w' := by
  obtain ⟨va, hva⟩ : ∃ v, validF n d = v := ⟨_, rfl⟩
  obtain ⟨vb, hvb⟩ : ∃ v, validF p q = v := ⟨_, rfl⟩
  have HA := Lib.hid (fun w => r01_Valid n d hn va hva w)
  have HB := Lib.hid (fun w => r01_Valid p q hp vb hvb w)
  unfold cmpF at hr
  rw [hva, hvb] at hr
  have HR := Lib.hid hr
  clear hva hvb hr hn hp
  have HU : Hid (Up w ((w.alloc (.cells #[.int .i64 n, .int .i64 d] 60)).alloc (.cells #[.int .i64 p, .int .i64 q] 60))) := Lib.hid (((Up.refl w).alloc _).alloc _)
  have B0 : Hid (BoxC ((w.alloc (.cells #[.int .i64 n, .int .i64 d] 60)).alloc (.cells #[.int .i64 p, .int .i64 q] 60)) w.heap.size 60 #[.int .i64 n, .int .i64 d]) := Lib.hid ((BoxC.new w _ _).up ((Up.refl _).alloc _))
  have B1 : Hid (BoxC ((w.alloc (.cells #[.int .i64 n, .int .i64 d] 60)).alloc (.cells #[.int .i64 p, .int .i64 q] 60)) (w.heap.size + 1) 60 #[.int .i64 p, .int .i64 q]) := Lib.hid (BoxC.new2 w _ _ _)
  obtain ⟨a0, a1⟩ := B0.out.two
  obtain ⟨b0, b1⟩ := B1.out.two
  by_cases hv : va = true ∧ vb = true
  · obtain ⟨rfl, rfl⟩ := hv
    have HO := Lib.hid (fun w => r01_order _ _ r HR.out w)
    go_enter Tryd.func73, Tryd.ntmps73
    go_wp2_with (first | (go_at_call 87; (first | (with_reducible refine (HA.out _).mono ?_) | (with_reducible refine (HB.out _).mono ?_)); rintro e x ⟨rfl, hx⟩; replace HU := Lib.hid (HU.out.trans hx); replace B0 := Lib.hid (B0.out.up hx); replace B1 := Lib.hid (B1.out.up hx); clear hx a0 a1 b0 b1; obtain ⟨a0, a1⟩ := B0.out.two; obtain ⟨b0, b1⟩ := B1.out.two) | (go_at_call 88; refine (HO.out _).mono ?_; rintro e x ⟨rfl, hx⟩; replace HU := Lib.hid (HU.out.trans hx); clear hx))
    go_ret
    exact ⟨rfl, HU.out⟩
  · by_cases he : n = p
    · subst he
      have HO := Lib.hid (fun w => r01_order d q r (by rw [← HR.out]; cases va <;> cases vb <;> simp_all) w)
      cases va
      · go_enter Tryd.func73, Tryd.ntmps73
        go_wp2_with (first | (go_at_call 87; (first | (with_reducible refine (HA.out _).mono ?_) | (with_reducible refine (HB.out _).mono ?_)); rintro e x ⟨rfl, hx⟩; replace HU := Lib.hid (HU.out.trans hx); replace B0 := Lib.hid (B0.out.up hx); replace B1 := Lib.hid (B1.out.up hx); clear hx a0 a1 b0 b1; obtain ⟨a0, a1⟩ := B0.out.two; obtain ⟨b0, b1⟩ := B1.out.two) | (go_at_call 88; refine (HO.out _).mono ?_; rintro e x ⟨rfl, hx⟩; replace HU := Lib.hid (HU.out.trans hx); clear hx))
        go_ret
        exact ⟨rfl, HU.out⟩
      · cases vb
        · go_enter Tryd.func73, Tryd.ntmps73
          go_wp2_with (first | (go_at_call 87; (first | (with_reducible refine (HA.out _).mono ?_) | (with_reducible refine (HB.out _).mono ?_)); rintro e x ⟨rfl, hx⟩; replace HU := Lib.hid (HU.out.trans hx); replace B0 := Lib.hid (B0.out.up hx); replace B1 := Lib.hid (B1.out.up hx); clear hx a0 a1 b0 b1; obtain ⟨a0, a1⟩ := B0.out.two; obtain ⟨b0, b1⟩ := B1.out.two) | (go_at_call 88; refine (HO.out _).mono ?_; rintro e x ⟨rfl, hx⟩; replace HU := Lib.hid (HU.out.trans hx); clear hx))
          go_ret
          exact ⟨rfl, HU.out⟩
        · exact absurd ⟨rfl, rfl⟩ hv
    · have he2 : (n == p) = false := by simpa using he
      have he3 : (n != p) = true := by simpa using he
      have HO := Lib.hid (fun w => r01_order n p r (by rw [← HR.out]; cases va <;> cases vb <;> simp_all) w)
      cases va
      · go_enter Tryd.func73, Tryd.ntmps73
        go_wp2_with (first | (go_at_call 87; (first | (with_reducible refine (HA.out _).mono ?_) | (with_reducible refine (HB.out _).mono ?_)); rintro e x ⟨rfl, hx⟩; replace HU := Lib.hid (HU.out.trans hx); replace B0 := Lib.hid (B0.out.up hx); replace B1 := Lib.hid (B1.out.up hx); clear hx a0 a1 b0 b1; obtain ⟨a0, a1⟩ := B0.out.two; obtain ⟨b0, b1⟩ := B1.out.two) | (go_at_call 88; refine (HO.out _).mono ?_; rintro e x ⟨rfl, hx⟩; replace HU := Lib.hid (HU.out.trans hx); clear hx))
        go_ret
        exact ⟨rfl, HU.out⟩
      · cases vb
        · go_enter Tryd.func73, Tryd.ntmps73
          go_wp2_with (first | (go_at_call 87; (first | (with_reducible refine (HA.out _).mono ?_) | (with_reducible refine (HB.out _).mono ?_)); rintro e x ⟨rfl, hx⟩; replace HU := Lib.hid (HU.out.trans hx); replace B0 := Lib.hid (B0.out.up hx); replace B1 := Lib.hid (B1.out.up hx); clear hx a0 a1 b0 b1; obtain ⟨a0, a1⟩ := B0.out.two; obtain ⟨b0, b1⟩ := B1.out.two) | (go_at_call 88; refine (HO.out _).mono ?_; rintro e x ⟨rfl, hx⟩; replace HU := Lib.hid (HU.out.trans hx); clear hx))
          go_ret
          exact ⟨rfl, HU.out⟩
        · exact absurd ⟨rfl, rfl⟩ hv

end Go.Proofs.YtbpojmhgifgfdaaDoor
