/-
  The planner: the plan as a list, and the recursion (chapter 28, the program's side).
-/
import Derived.Test.YtdanjghefhjmcaaChPlanD
namespace Go.Proofs.Ytdanjghefhjmcaa
open Go.ChangeShapes Go.WideShapes Go.ChangeAt Go.RowKit
set_option linter.unusedVariables false
set_option linter.unusedSimpArgs false

def advL (f t : Nat) : List Actn := (List.range (t - f)).map fun k => ((1 : Int), ((f + 1 + k : Nat) : Int), (0 : Int))
theorem advL_len (f t : Nat) : (advL f t).length = t - f := by simp [advL]
theorem advL_succ (f k : Nat) : advL f (f + (k + 1)) = advL f (f + k) ++ [((1 : Int), ((f + 1 + k : Nat) : Int), (0 : Int))] := by
  unfold advL
  rw [show f + (k + 1) - f = k + 1 by omega, show f + k - f = k by omega, List.range_succ, List.map_append]; rfl
theorem advL_nil (f : Nat) : advL f (f + 0) = [] := by simp [advL]

set_option maxHeartbeats 2000000 in
set_option maxRecDepth 100000 in
theorem plan_advance (w : World) (h b fb : Nat) (slots : Int) (l : List Actn) (f t : Nat) (x y : Int) (hx : x = f) (hy : y = t) (hft : f ≤ t) (ht : t ≤ 64) (hp : PlanAt w h b fb slots l) (hl : l.length ≤ 60000) :
    Calls Try.prog 35 #[.pointer (some ⟨b, 0, none⟩), .int .i64 x, .int .i64 y] w fun e w' => e = .returned (.tuple #[]) ∧ PlanAt w' h b fb slots (l ++ advL f t) ∧ UpPlan h b w w' := by
  subst hx hy
  have HP := Lib.hid hp
  clear hp
  have hf64 : (f : Int) ≤ 64 := by omega
  have ht64 : (t : Int) ≤ 64 := by omega
  have hfti : (f : Int) ≤ (t : Int) := by omega
  go_enter Try.func35, Try.ntmps35
  go_wp2
  go_loopw [6] (fun av wr => ∃ k : Nat, k ≤ t - f ∧ av = .int .i64 ((f : Int) + 1 + k) ∧ PlanAt wr h b fb slots (l ++ advL f (f + k)) ∧ UpPlan h b w wr) (fun av _ => t + 1 - (intOf av).toNat)
  case atStart => exact ⟨0, by omega, by simp, by rw [advL_nil, List.append_nil]; exact HP.out, UpPlan.refl _ _ _⟩
  case round =>
    rename_i wr
    obtain ⟨k, hk, rfl, hp, hu⟩ := hrel
    have HP2 := Lib.hid hp
    have HU := Lib.hid hu
    clear hp hu
    have hlen : (l ++ advL f (f + k)).length ≤ 65536 := by rw [List.length_append, advL_len]; omega
    have HLN := Lib.hid hlen
    clear hlen
    by_cases hlt : k < t - f
    · have h1 : (f : Int) + 1 + (k : Int) ≤ (t : Int) := by omega
      go_wp2_with fail
      refine (plan_do _ h b fb slots _ 1 ((f : Int) + 1 + k) 0 HP2.out HLN.out).mono ?_
      rintro e w2 ⟨rfl, hp2, hu2⟩
      have HP3 := Lib.hid hp2
      have HU2 := Lib.hid (HU.out.trans hu2)
      clear hp2 hu2
      go_wp2
      go_roundw
      case rel =>
        refine ⟨k + 1, by omega, by go_num, ?_, HU2.out⟩
        have := HP3.out
        rw [advL_succ, ← List.append_assoc, show ((f + 1 + k : Nat) : Int) = (f : Int) + 1 + k by omega]
        exact this
      case measure => simp [intOf]; omega
    · have h1 : (t : Int) < (f : Int) + 1 + (k : Int) := by omega
      obtain rfl : k = t - f := by omega
      have HP4 : Hid (PlanAt wr h b fb slots (l ++ advL f t)) := Lib.hid (by have := HP2.out; rw [show f + (t - f) = t by omega] at this; exact this)
      go_wp2
      go_end0
      exact ⟨rfl, HP4.out, HU.out⟩
end Go.Proofs.Ytdanjghefhjmcaa
