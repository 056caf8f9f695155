/-
  Small forms, and the law's own check that the package is alive.
-/
import Derived.Test.YtpclbgaaoednnaaDoorLinEw
import Derived.Test.YtpclbgaaoednnaaDoorLin3c
namespace Go.Proofs.YtpclbgaaoednnaaDoor
open Go.ChangeShapes Go.WideShapes Go.ChangeAt Go.RowKit
set_option linter.unusedVariables false

def namesS (l : List Mono) : Bool := l.all fun m => decide (m.1.size ≤ 40)
def smallB (l : List Mono) : Bool := decide (l.length ≤ 40) && namesS l

set_option maxHeartbeats 2000000 in
theorem r05_Small (K : Int) (v : Value) (l : List Mono) (w : World) (hv : MonosAt w v l) :
    Calls Tryd.prog 4 #[.agg #[.int .i64 K, v]] w fun e w' => e = .returned (.bool (smallB l)) ∧ Up w w' := by
  have hmax := hv.max
  obtain ⟨a, cap, rfl⟩ := hv.slice
  obtain ⟨r, hr⟩ : ∃ r, smallB l = r := ⟨_, rfl⟩
  rw [hr]
  obtain ⟨n, hn⟩ : ∃ n, l.length = n := ⟨_, rfl⟩
  rw [hn] at hv hmax ⊢
  have HN := Lib.hid hn
  have HR := Lib.hid hr
  have HV := Lib.hid hv
  clear hr hn hv
  by_cases h40 : 40 < n
  · have h1 : (40 : Int) < (n : Int) := by omega
    obtain rfl : r = false := by
      rw [← HR.out]
      have : decide (l.length ≤ 40) = false := decide_eq_false (by rw [HN.out]; omega)
      unfold smallB; rw [this]; rfl
    go_enter Tryd.func4, Tryd.ntmps4
    go_wp2
    go_ret
    exact ⟨rfl, (Up.refl w).alloc _⟩
  · have h1 : (n : Int) ≤ 40 := by omega
    have HR2 : Hid (namesS l = r) := Lib.hid (by
      rw [← HR.out]
      have : decide (l.length ≤ 40) = true := decide_eq_true (by rw [HN.out]; omega)
      unfold smallB; rw [this]; rfl)
    go_enter Tryd.func4, Tryd.ntmps4
    go_wp2
    obtain ⟨W1, hW1⟩ : ∃ W1, w.alloc (.cells #[.int .i64 K, .slice a n cap] 24) = W1 := ⟨_, rfl⟩
    rw [hW1]
    have HU1 : Hid (Up w W1) := Lib.hid (hW1 ▸ (Up.refl w).alloc _)
    obtain ⟨B, hB⟩ : ∃ B, w.heap.size = B := ⟨_, rfl⟩
    have hrow : W1.heap[B]? = some (.cells #[.int .i64 K, .slice a n cap] 24 (0, 0)) := by
      rw [← hW1, ← hB]; exact heap_alloc_new w _
    have hsz1 : W1.heap.size = B + 1 := by rw [← hW1, size_alloc, hB]
    have HROW := Lib.hid hrow
    clear hrow hW1
    rw [hB]
    have HB := Lib.hid hB
    clear hB
    go_loopw [3] (fun i wr => ∃ k : Nat, k ≤ n ∧ i = .int .i64 k ∧ Up W1 wr ∧ namesS (l.drop k) = r) (fun i _ => n - (intOf i).toNat)
    case atStart => exact ⟨0, by omega, rfl, Up.refl _, by rw [List.drop_zero]; exact HR2.out⟩
    case round =>
      rename_i wr
      obtain ⟨k, hk, rfl, hU1, hP⟩ := hrel
      have HP := Lib.hid hP
      clear hP
      have hU := HU1.out.trans hU1
      have d1 : wr.cell? ⟨B, 1, none⟩ = some (.slice a n cap) := (hU1.cell _ _ (by omega)).trans (cell_of_row _ _ _ _ _ _ HROW.out)
      have hs1 := hU1.size
      have q3 : B < wr.heap.size := by omega
      by_cases hlt : k < n
      · have hlt2 : (k : Int) < (n : Int) := by omega
        have hk0 : (0 : Int) ≤ (k : Int) := by omega
        obtain ⟨bl, off, s, b, rfl, p1, p2, p3, p4⟩ := HV.out.elem hU k (by rw [HN.out]; exact hlt) HN.out rfl
        obtain ⟨z, hz⟩ : ∃ z, s.size = z := ⟨_, rfl⟩
        have HP2 : Hid ((decide (z ≤ 40) && namesS (l.drop (k + 1))) = r) := Lib.hid (by
          rw [← HP.out, drop_mono (by rw [HN.out]; exact hlt) p2, ← hz]; rfl)
        clear p2 HP
        by_cases hzz : 40 < z
        · have h2 : (40 : Int) < (z : Int) := by omega
          have HG : Hid (false = r) := Lib.hid (by rw [← HP2.out, decide_eq_false (by omega)]; rfl)
          go_wp2
          go_ret
          exact ⟨ret_bool HG.out, hU⟩
        · have h2 : (z : Int) ≤ 40 := by omega
          have HG : Hid (namesS (l.drop (k + 1)) = r) := Lib.hid (by rw [← HP2.out, decide_eq_true (by omega)]; rfl)
          go_wp2
          go_roundw
          case rel => exact ⟨k + 1, by omega, by go_num, hU1, HG.out⟩
          case measure => simp [intOf]; omega
      · have hlt2 : (n : Int) ≤ (k : Int) := by omega
        obtain rfl : r = true := by rw [← HP.out, List.drop_eq_nil_of_le (by rw [HN.out]; omega)]; rfl
        go_wp2
        go_ret
        exact ⟨rfl, hU⟩

theorem varL_i : varL ⟨#[105]⟩ = [(⟨#[105]⟩, 1)] := by
  have : nameB (⟨#[105]⟩ : ByteArray).toList = true := by
    rw [Lib.toList_data]; decide
  unfold varL
  rw [this]; rfl

theorem law05_alive (w : World) : Calls Tryd.prog 5 #[] w fun e w' => e = .returned (.bool true) ∧ Up w w' := by
  go_enter Tryd.func5, Tryd.ntmps5
  go_wp2_with fail
  refine (lin_Const _ _).mono ?_
  rintro e x1 ⟨rfl, hx1⟩
  have HU := Lib.hid hx1
  clear hx1
  go_wp2_with fail
  refine (lin_Eval 7 _ _ [] [] _ (monos_nil _) (monos_nil _) ⟨by omega, by omega⟩ (fun k hk => absurd hk (by simp)) (fun k hk => absurd hk (by simp)) (by simp)).mono ?_
  rintro e x2 ⟨rfl, hx2⟩
  rw [show evalF 7 [] [] = (7, 0) from rfl]
  replace HU := Lib.hid (HU.out.trans hx2)
  clear hx2
  go_wp2_with fail
  refine (lin_Var _ _).mono ?_
  rintro e x3 ⟨v, rfl, hv, hx3⟩
  replace HU := Lib.hid (HU.out.trans hx3)
  rw [varL_i] at hv
  obtain ⟨a, cap, rfl⟩ := hv.slice
  obtain ⟨bl, off, s, b, rfl, p1, p2, p3, p4⟩ := hv.elem (Up.refl x3) 0 (by simp) rfl rfl
  obtain ⟨rfl, rfl⟩ : s = ⟨#[105]⟩ ∧ b = 1 := by
    have : ((⟨#[105]⟩ : ByteArray), (1 : Int)) = (s, b) := p2
    exact ⟨(congrArg Prod.fst this).symm, (congrArg Prod.snd this).symm⟩
  simp only [Nat.zero_mul, Nat.add_zero] at p3 p4
  have q1 : bl < x3.heap.size := p1
  have q2 : bl < x3.heap.size + 1 := by omega
  clear hx3 hv p2
  go_wp2
  go_ret
  exact ⟨rfl, HU.out.alloc _⟩
end Go.Proofs.YtpclbgaaoednnaaDoor

