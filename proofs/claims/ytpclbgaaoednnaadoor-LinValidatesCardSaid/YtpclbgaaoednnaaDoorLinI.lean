/-
  The first binding of a name: Eval's closure and slices.IndexFunc.
-/
import Derived.Test.YtpclbgaaoednnaaDoorLin2
import Derived.Test.YtpclbgaaoednnaaDoorBut
namespace Go.Proofs.YtpclbgaaoednnaaDoor
set_option linter.unusedSimpArgs false
open Go.ChangeShapes Go.WideShapes Go.ChangeAt Go.RowKit
set_option linter.unusedVariables false

def idxFrom (s : List UInt8) : List Mono → Nat → Int
  | [], _ => -1
  | m :: r, k => if m.1.toList == s then (k : Int) else idxFrom s r (k + 1)

theorem lin_Eval1 (u s : ByteArray) (x : Int) (B : Nat) (w : World) (hB : B < w.heap.size) (hc : w.cell? ⟨B, 0, none⟩ = some (.string s)) :
    Calls Tryd.prog 26 #[.agg #[.string u, .int .i64 x], .pointer (some ⟨B, 0, none⟩)] w fun e w' => e = .returned (.bool (u.toList == s.toList)) ∧ Up w w' := by
  go_enter Tryd.func26, Tryd.ntmps26
  go_wp2
  go_ret
  exact ⟨rfl, (Up.refl w).alloc _⟩

set_option maxHeartbeats 2000000 in
theorem slices_IndexFunc (s : ByteArray) (B : Nat) (v : Value) (l : List Mono) (w : World) (hv : MonosAt w v l) (hB : B < w.heap.size) (hc : w.cell? ⟨B, 0, none⟩ = some (.string s)) :
    Calls Tryd.prog 25 #[v, .func (.func 26) #[] #[.pointer (some ⟨B, 0, none⟩)]] w fun e w' => e = .returned (.int .i64 (idxFrom s.toList l 0)) ∧ Up w w' := by
  have hmax := hv.max
  obtain ⟨r, hr⟩ : ∃ r, idxFrom s.toList l 0 = r := ⟨_, rfl⟩
  rw [hr]
  obtain ⟨a, cap, rfl⟩ := hv.slice
  obtain ⟨n, hn⟩ : ∃ n, l.length = n := ⟨_, rfl⟩
  rw [hn] at hv hmax ⊢
  have HV := Lib.hid hv
  have HN := Lib.hid hn
  have HR := Lib.hid hr
  have HC := Lib.hid hc
  clear hr hn hv hc
  go_enter Tryd.func25, Tryd.ntmps25
  go_wp2
  go_loopw [8] (fun i wr => ∃ k : Nat, k ≤ n ∧ i = .int .i64 k ∧ Up w wr ∧ idxFrom s.toList (l.drop k) k = r) (fun i _ => n - (intOf i).toNat)
  case atStart => exact ⟨0, by omega, rfl, Up.refl _, by rw [List.drop_zero]; exact HR.out⟩
  case round =>
    rename_i wr
    obtain ⟨k, hk, rfl, hU, hP⟩ := hrel
    have HP := Lib.hid hP
    clear hP
    by_cases hlt : k < n
    · have hlt2 : (k : Int) < (n : Int) := by omega
      have hk0 : (0 : Int) ≤ (k : Int) := by omega
      obtain ⟨bl, off, u, x, rfl, p1, p2, p3, p4⟩ := HV.out.elem hU k (by rw [HN.out]; exact hlt) HN.out rfl
      have hs := hU.size
      obtain ⟨q, hq⟩ : ∃ q, (u.toList == s.toList) = q := ⟨_, rfl⟩
      have HCL : Hid (Calls Tryd.prog 26 #[.agg #[.string u, .int .i64 x], .pointer (some ⟨B, 0, none⟩)] wr fun e w' => e = .returned (.bool q) ∧ Up wr w') := Lib.hid (by
        have := lin_Eval1 u s x B wr (by omega) ((hU.cell _ _ hB).trans HC.out)
        rw [hq] at this
        exact this)
      have HP2 : Hid ((if q then (k : Int) else idxFrom s.toList (l.drop (k + 1)) (k + 1)) = r) := Lib.hid (by
        rw [← HP.out, drop_mono (by rw [HN.out]; exact hlt) p2]
        show _ = (if u.toList == s.toList then (k : Int) else _)
        rw [hq])
      clear p2 HP hq
      go_wp2_with fail
      refine HCL.out.mono ?_
      rintro e x1 ⟨rfl, hx1⟩
      cases q
      · go_wp2
        go_roundw
        case rel => exact ⟨k + 1, by omega, by go_num, hU.trans hx1, HP2.out⟩
        case measure => simp [intOf]; omega
      · go_wp2
        go_ret
        exact ⟨ret_int (by rw [← HP2.out]; rfl), hU.trans hx1⟩
    · have hlt2 : (n : Int) ≤ (k : Int) := by omega
      obtain rfl : r = -1 := by rw [← HP.out, List.drop_eq_nil_of_le (by rw [HN.out]; omega)]; rfl
      go_wp2
      go_ret
      exact ⟨rfl, hU⟩
end Go.Proofs.YtpclbgaaoednnaaDoor

