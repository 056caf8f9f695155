/-
  Types; the small functions of isa and of the reference 47. Printed by mkPeW.py.
-/
import Derived.Test.YtlglfdhiopnglaaGreatDoorPeV
namespace Go.Proofs.YtlglfdhiopnglaaGreatDoor
open Go.ChangeShapes Go.WideShapes Go.ChangeAt Go.RowKit
set_option linter.unusedVariables false
set_option linter.unusedSimpArgs false
set_option maxRecDepth 100000

abbrev typV (t : Typ) : Value := .agg #[.int .i64 t.1, .int .i64 t.2.1, .int .i64 t.2.2.1, .int .i64 t.2.2.2.1, .int .i64 t.2.2.2.2]
def fixB (t : Typ) : Bool := decide (t.1 = 2 ∧ 2 ≤ t.2.1 ∧ t.2.1 ≤ 31 ∧ 0 ≤ t.2.2.1 ∧ t.2.2.1 ≤ 30 ∧ 1 ≤ t.2.2.2.1 ∧ t.2.2.2.1 ≤ 4 ∧ (t.2.2.2.2 = 1 ∨ t.2.2.2.2 = 2))
def plainB (t : Typ) : Bool := decide (t.2.1 = 0 ∧ t.2.2.1 = 0 ∧ t.2.2.2.1 = 0 ∧ t.2.2.2.2 = 0)
def typB (t : Typ) : Bool := (decide (t.1 = 1 ∨ t.1 = 3) && plainB t) || fixB t
def fixE (t : Typ) : Int := if fixB t = true then 0 else 10
def typE (t : Typ) : Int := if typB t = true then 0 else 10
def inB (n a b : Int) : Bool := decide (a ≤ n ∧ n ≤ b)
def numB (n d lo hi : Int) : Bool := decide (d = 1 ∧ lo ≤ n ∧ n ≤ hi)
def knownB (op : Int) : Bool := decide (0 ≤ op ∧ op < 17)
def typedB (op : Int) : Bool := decide (op = 12 ∨ op = 13 ∨ op = 14)
/-- field: the kinds - x r t n c m of the reference. -/
def fieldB (kind n : Int) : Bool :=
  if kind = 45 then decide (n = 0) else if kind = 120 ∨ kind = 114 then inB n 0 255 else if kind = 116 then inB n 0 65535 else if kind = 110 then inB n (-2147483647) 2147483647 else if kind = 99 then inB n 0 1048576 else inB n 1 4096


set_option maxHeartbeats 2000000 in
theorem isa_within (n a b : Int) (e : Bool) (he : inB n a b = e) (w : World) :
    Calls Tryz.prog 25 #[.int .i64 n, .int .i64 a, .int .i64 b] w fun e' w' => e' = .returned (.bool e) ∧ w' = w := by
  have HE := Lib.hid he
  clear he
  go_enter Tryz.func25, Tryz.ntmps25
  go_wp2
  all_goals try simp only [Bool.not_eq_false', Bool.not_eq_true', bne_iff_ne, ne_eq, bne_eq_false_iff_eq, beq_iff_eq, beq_eq_false_iff_ne, decide_eq_true_eq, decide_eq_false_iff_not] at *
  all_goals
    go_ret
    exact ⟨ret_bool (by rw [← HE.out, inB, Bool.eq_iff_iff]; simp; omega), rfl⟩

set_option maxHeartbeats 2000000 in
theorem isa_known (op : Int) (e : Bool) (he : knownB op = e) (w : World) :
    Calls Tryz.prog 36 #[.int .i64 op] w fun e' w' => e' = .returned (.bool e) ∧ w' = w := by
  have HE := Lib.hid he
  clear he
  go_enter Tryz.func36, Tryz.ntmps36
  go_wp2
  all_goals try simp only [Bool.not_eq_false', Bool.not_eq_true', bne_iff_ne, ne_eq, bne_eq_false_iff_eq, beq_iff_eq, beq_eq_false_iff_ne, decide_eq_true_eq, decide_eq_false_iff_not] at *
  all_goals
    go_ret
    exact ⟨ret_bool (by rw [← HE.out, knownB, Bool.eq_iff_iff]; simp; omega), rfl⟩

set_option maxHeartbeats 2000000 in
theorem r47_typed (op : Int) (e : Bool) (he : typedB op = e) (w : World) :
    Calls Tryz.prog 44 #[.int .i64 op] w fun e' w' => e' = .returned (.bool e) ∧ w' = w := by
  have HE := Lib.hid he
  clear he
  go_enter Tryz.func44, Tryz.ntmps44
  go_wp2
  all_goals try simp only [Bool.not_eq_false', Bool.not_eq_true', bne_iff_ne, ne_eq, bne_eq_false_iff_eq, beq_iff_eq, beq_eq_false_iff_ne, decide_eq_true_eq, decide_eq_false_iff_not] at *
  all_goals
    go_ret
    exact ⟨ret_bool (by rw [← HE.out, typedB, Bool.eq_iff_iff]; simp; omega), rfl⟩

set_option maxHeartbeats 2000000 in
theorem r47_field (kind n : Int) (e : Bool) (he : fieldB kind n = e) (w : World) :
    Calls Tryz.prog 42 #[.int .u8 kind, .int .i64 n] w fun e' w' => e' = .returned (.bool e) ∧ w' = w := by
  have HE := Lib.hid he
  clear he
  go_enter Tryz.func42, Tryz.ntmps42
  go_wp2
  all_goals try simp only [Bool.not_eq_false', Bool.not_eq_true', bne_iff_ne, ne_eq, bne_eq_false_iff_eq, beq_iff_eq, beq_eq_false_iff_ne, decide_eq_true_eq, decide_eq_false_iff_not] at *
  all_goals
    go_ret
    exact ⟨ret_bool (by rw [← HE.out, fieldB, Bool.eq_iff_iff]; simp [*, inB]; try omega), rfl⟩

set_option maxHeartbeats 2000000 in
theorem r47_number (n d lo hi : Int) (e : Bool) (he : numB n d lo hi = e) (w : World) :
    Calls Tryz.prog 73 #[.agg #[.int .i64 n, .int .i64 d], .int .i64 lo, .int .i64 hi] w fun e' w' => e' = .returned (.bool e) ∧ Up w w' := by
  have HE := Lib.hid he
  clear he
  go_enter Tryz.func73, Tryz.ntmps73
  go_wp2
  all_goals try simp only [Bool.not_eq_false', Bool.not_eq_true', bne_iff_ne, ne_eq, bne_eq_false_iff_eq, beq_iff_eq, beq_eq_false_iff_ne, decide_eq_true_eq, decide_eq_false_iff_not] at *
  all_goals
    go_ret
    exact ⟨ret_bool (by rw [← HE.out, numB, Bool.eq_iff_iff]; simp; omega), (Up.refl w).alloc _⟩

set_option maxHeartbeats 2000000 in
theorem fixed_ValidateType (t : Typ) (e : Int) (he : fixE t = e) (w : World) :
    Calls Tryz.prog 50 #[typV t] w fun e' w' => e' = .returned (.int .i64 e) ∧ Up w w' := by
  obtain ⟨k, b, f, r, o⟩ := t
  have HE := Lib.hid he
  clear he
  go_enter Tryz.func50, Tryz.ntmps50
  go_wp2
  all_goals try simp only [Bool.not_eq_false', Bool.not_eq_true', bne_iff_ne, ne_eq, bne_eq_false_iff_eq, beq_iff_eq, beq_eq_false_iff_ne, decide_eq_true_eq, decide_eq_false_iff_not] at *
  all_goals
    go_ret
    exact ⟨ret_int (by have := HE.out; rw [← this, fixE, fixB]; first | (rw [if_pos (by simp; omega)]) | (rw [if_neg (by simp; omega)])), (Up.refl w).alloc _⟩

set_option maxHeartbeats 2000000 in
theorem value_plain (t : Typ) (e : Bool) (he : plainB t = e) (w : World) :
    Calls Tryz.prog 49 #[typV t] w fun e' w' => e' = .returned (.bool e) ∧ Up w w' := by
  obtain ⟨k, b, f, r, o⟩ := t
  have HE := Lib.hid he
  clear he
  go_enter Tryz.func49, Tryz.ntmps49
  go_wp2
  all_goals try simp only [Bool.not_eq_false', Bool.not_eq_true', bne_iff_ne, ne_eq, bne_eq_false_iff_eq, beq_iff_eq, beq_eq_false_iff_ne, decide_eq_true_eq, decide_eq_false_iff_not] at *
  all_goals
    go_ret
    exact ⟨ret_bool (by rw [← HE.out, plainB, Bool.eq_iff_iff]; simp; try omega), (Up.refl w).alloc _⟩

set_option maxHeartbeats 8000000 in
theorem base_Type (t : Typ) (e : Bool) (he : typB t = e) (w : World) :
    Calls Tryz.prog 28 #[typV t] w fun e' w' => e' = .returned (.bool e) ∧ Up w w' := by
  obtain ⟨k, b, f, r, o⟩ := t
  have HE := Lib.hid he
  clear he
  go_enter Tryz.func28, Tryz.ntmps28
  go_wp2
  all_goals try simp only [Bool.not_eq_false', Bool.not_eq_true', bne_iff_ne, ne_eq, bne_eq_false_iff_eq, beq_iff_eq, beq_eq_false_iff_ne, decide_eq_true_eq, decide_eq_false_iff_not] at *
  all_goals
    go_ret
    exact ⟨ret_bool (by rw [← HE.out, typB, plainB, fixB, Bool.eq_iff_iff]; simp; omega), (Up.refl w).alloc _⟩
end Go.Proofs.YtlglfdhiopnglaaGreatDoor

