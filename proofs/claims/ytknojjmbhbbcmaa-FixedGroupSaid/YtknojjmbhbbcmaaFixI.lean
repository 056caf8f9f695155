/-
  Contracts of chapter 3: operations on valid operands.
-/
import Derived.Test.YtknojjmbhbbcmaaFixP
namespace Go.Proofs.Ytknojjmbhbbcmaa
open Go.ChangeShapes Go.WideShapes Go.ChangeAt Go.RowKit

theorem add_ok (k b f r o n1 d1 n2 d2 m : Int) (hc : chkE k b f r o [(n1, d1), (n2, d2)] = 0) (hm : fitN (n1 + n2) b o = m) (w : World) :
    Calls Try.prog 21 #[.agg #[.int .i64 k, .int .i64 b, .int .i64 f, .int .i64 r, .int .i64 o], .agg #[.int .i64 n1, .int .i64 d1], .agg #[.int .i64 n2, .int .i64 d2]] w fun e' w' => e' = .returned (.tuple #[.agg #[.int .i64 m, .int .i64 1], .int .i64 0]) ∧ Up w w' := by
  have := fixed_Add k b f r o n1 d1 n2 d2 0 _ 0 m hc rfl hm w
  rw [(ap_ok m).1, (ap_ok m).2.1, (ap_ok m).2.2] at this
  exact this
theorem sub_ok (k b f r o n1 d1 n2 d2 m : Int) (hc : chkE k b f r o [(n1, d1), (n2, d2)] = 0) (hm : fitN (n1 - n2) b o = m) (w : World) :
    Calls Try.prog 23 #[.agg #[.int .i64 k, .int .i64 b, .int .i64 f, .int .i64 r, .int .i64 o], .agg #[.int .i64 n1, .int .i64 d1], .agg #[.int .i64 n2, .int .i64 d2]] w fun e' w' => e' = .returned (.tuple #[.agg #[.int .i64 m, .int .i64 1], .int .i64 0]) ∧ Up w w' := by
  have := fixed_Sub k b f r o n1 d1 n2 d2 0 _ 0 m hc rfl hm w
  rw [(ap_ok m).1, (ap_ok m).2.1, (ap_ok m).2.2] at this
  exact this
theorem mul_ok (k b f r o n1 d1 n2 d2 q m : Int) (hc : chkE k b f r o [(n1, d1), (n2, d2)] = 0) (hq : divR (n1 * n2) (2 ^ f.toNat) r = (q, 0)) (hm : fitN (q) b o = m) (w : World) :
    Calls Try.prog 22 #[.agg #[.int .i64 k, .int .i64 b, .int .i64 f, .int .i64 r, .int .i64 o], .agg #[.int .i64 n1, .int .i64 d1], .agg #[.int .i64 n2, .int .i64 d2]] w fun e' w' => e' = .returned (.tuple #[.agg #[.int .i64 m, .int .i64 1], .int .i64 0]) ∧ Up w w' := by
  have := fixed_Mul k b f r o n1 d1 n2 d2 0 _ 0 m hc hq hm w
  rw [(ap_ok m).1, (ap_ok m).2.1, (ap_ok m).2.2] at this
  exact this
end Go.Proofs.Ytknojjmbhbbcmaa
