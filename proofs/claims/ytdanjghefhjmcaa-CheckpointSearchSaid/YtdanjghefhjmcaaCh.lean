/-
  Plain functions for chapter 28: the binomial coefficients as the program computes them, and the cost.
-/
import Derived.RowKit
import Derived.KernelRfl
namespace Go.Proofs.Ytdanjghefhjmcaa
open Go.RowKit

/-- The program's loop: fuel, i, n. -/
def chGo (d : Nat) : Nat → Nat → Nat → Nat
  | 0, _, n => n
  | f + 1, i, n => if 1099511627776 < n * (d + i) / i then 1099511627776 else chGo d f (i + 1) (n * (d + i) / i)
def chP (d b : Nat) : Nat := chGo d b 1 1
/-- The reference's loop. -/
def chGoR (d : Nat) : Nat → Nat → Nat → Nat
  | 0, _, n => n
  | f + 1, i, n => if 10000 < n then n else chGoR d f (i + 1) (n * (d + i) / i)
def chR (d b : Nat) : Nat := chGoR d b 1 1

def rGo (n c : Nat) : Nat → Nat → Nat
  | 0, r => r
  | f + 1, r => if chP r c < n then rGo n c f (r + 1) else r
def rF (n c : Nat) : Nat := rGo n c 64 0
def costF (n s : Nat) : Nat := if rF n (s + 1) = 0 then 0 else rF n (s + 1) * n - chP (rF n (s + 1) - 1) (s + 2)

def rGoR (n c : Nat) : Nat → Nat → Nat
  | 0, r => r
  | f + 1, r => if chR c r < n then rGoR n c f (r + 1) else r
def rR (n c : Nat) : Nat := rGoR n c 64 0
def costR (n s : Nat) : Nat := if rR n (s + 1) = 0 then 0 else rR n (s + 1) * n - chR (s + 2) (rR n (s + 1) - 1)

/-- For all numbers up to 64. -/
def all64 (p : Nat → Bool) : Bool := (List.range 65).all p
theorem all64_spec {p : Nat → Bool} (h : all64 p = true) (n : Nat) (hn : n ≤ 64) : p n = true := List.all_eq_true.1 h n (List.mem_range.2 (by omega))

theorem cost_same_b : (all64 fun n => all64 fun s => costF n s == costR n s) = true := by decide +kernel
theorem cost_same (n s : Nat) (hn : n ≤ 64) (hs : s ≤ 64) : costF n s = costR n s := by
  have := all64_spec (all64_spec cost_same_b n hn) s hs
  simpa using this

theorem ch63_b : (all64 fun s => decide (64 ≤ chP 63 (s + 1))) = true := by decide +kernel
theorem ch63R_b : (all64 fun s => decide (64 ≤ chR (s + 1) 63)) = true := by decide +kernel
/-- No negative difference. -/
theorem cost_pos_b : (all64 fun n => all64 fun s => decide (rF n (s + 1) = 0) || decide (chP (rF n (s + 1) - 1) (s + 2) ≤ rF n (s + 1) * n)) = true := by decide +kernel
theorem costR_pos_b : (all64 fun n => all64 fun s => decide (rR n (s + 1) = 0) || decide (chR (s + 2) (rR n (s + 1) - 1) ≤ rR n (s + 1) * n)) = true := by decide +kernel
end Go.Proofs.Ytdanjghefhjmcaa
