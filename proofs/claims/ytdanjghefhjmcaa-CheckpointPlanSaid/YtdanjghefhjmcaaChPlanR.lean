/-
  The planner's recursion (chapter 28, the program's side).
-/
import Derived.Test.YtdanjghefhjmcaaChPlanE
import Derived.Test.YtdanjghefhjmcaaChPlanP
namespace Go.Proofs.Ytdanjghefhjmcaa
open Go.ChangeShapes Go.WideShapes Go.ChangeAt Go.RowKit
set_option linter.unusedVariables false
set_option linter.unusedSimpArgs false

/-- Without free slots: each step anew from the start. -/
def quadL (f : Nat) (sl : Int) : Nat → List Actn
  | 0 => []
  | j + 1 => advL f (f + j) ++ [((4 : Int), ((f + j + 1 : Nat) : Int), (0 : Int))] ++ (if 0 < j then [((3 : Int), (f : Int), sl)] else []) ++ quadL f sl j
theorem quadL_len (f : Nat) (sl : Int) : ∀ j, j ≤ 64 → (quadL f sl j).length ≤ 66 * j
  | 0, _ => by simp [quadL]
  | j + 1, h => by
    have := quadL_len f sl j (by omega)
    simp only [quadL, List.length_append, advL_len]
    split <;> simp <;> omega

set_option maxHeartbeats 4000000 in
set_option maxRecDepth 100000 in
theorem plan_quad (w : World) (h b fb : Nat) (slots : Int) (l : List Actn) (f t : Nat) (sl : Int) (h2 : f + 2 ≤ t) (ht : t ≤ 64) (hp : PlanAt w h b fb slots l) (hl : l.length ≤ 50000) :
    Calls Try.prog 32 #[.pointer (some ⟨b, 0, none⟩), .int .i64 f, .int .i64 t, .int .i64 sl, .int .i64 0] w fun e w' => e = .returned (.tuple #[]) ∧ PlanAt w' h b fb slots (l ++ quadL f sl (t - f)) ∧ UpPlan h b w w' := by
  have HP := Lib.hid hp
  clear hp
  have t1 : ((f : Int) == (t : Int)) = false := by simp; omega
  have t2 : ((t : Int) == (f : Int) + 1) = false := by simp; omega
  have hf64 : (f : Int) ≤ 64 := by omega
  have ht64 : (t : Int) ≤ 64 := by omega
  go_enter Try.func32, Try.ntmps32
  go_wp2
  go_loopw [10] (fun av wr => ∃ (j : Nat) (x : Int) (l' : List Actn), j ≤ t - f ∧ x = (f : Int) + j ∧ av = .int .i64 x ∧ PlanAt wr h b fb slots l' ∧ UpPlan h b w wr ∧ l' ++ quadL f sl j = l ++ quadL f sl (t - f)) (fun av _ => (intOf av).toNat - f)
  case atStart => exact ⟨t - f, t, l, by omega, by omega, rfl, HP.out, UpPlan.refl _ _ _, rfl⟩
  case round =>
    rename_i wr
    obtain ⟨j, x, l', hj, hx, rfl, hp, hu, hL⟩ := hrel
    have HP2 := Lib.hid hp
    have HU := Lib.hid hu
    have HL := Lib.hid hL
    have hlen : l'.length ≤ 55000 := by
      have := congrArg List.length hL
      simp only [List.length_append] at this
      have := quadL_len f sl (t - f) (by omega)
      omega
    have HLN := Lib.hid hlen
    have HX := Lib.hid hx
    have hx64 : x ≤ 64 := by omega
    have hx0 : (0 : Int) ≤ x := by omega
    clear hp hu hL hlen
    by_cases hlt : 0 < j
    · obtain ⟨i, rfl⟩ : ∃ i, j = i + 1 := ⟨j - 1, by omega⟩
      have h1 : (f : Int) < x := by omega
      clear hx
      go_wp2_with fail
      refine (plan_advance _ h b fb slots _ f (f + i) f (x - 1) rfl (by have := HX.out; omega) (by omega) (by omega) HP2.out (by have := HLN.out; omega)).mono ?_
      rintro e w2 ⟨rfl, hp2, hu2⟩
      have HP3 := Lib.hid hp2
      have HU2 := Lib.hid (HU.out.trans hu2)
      have hlen2 : (l' ++ advL f (f + i)).length ≤ 65000 := by have := HLN.out; rw [List.length_append, advL_len]; omega
      have HLN2 := Lib.hid hlen2
      clear hp2 hu2 hlen2
      go_wp2_with fail
      refine (plan_do _ h b fb slots _ 4 x 0 HP3.out (by have := HLN2.out; omega)).mono ?_
      rintro e w3 ⟨rfl, hp3, hu3⟩
      have HP4 := Lib.hid hp3
      have HU3 := Lib.hid (HU2.out.trans hu3)
      clear hp3 hu3
      by_cases hgt : 0 < i
      · have h3 : (f : Int) < x - 1 := by have := HX.out; omega
        have hlen3 : (l' ++ advL f (f + i) ++ [((4 : Int), x, (0 : Int))]).length ≤ 65500 := by have := HLN2.out; rw [List.length_append]; simp only [List.length_singleton]; omega
        have HLN3 := Lib.hid hlen3
        clear hlen3
        go_wp2_with fail
        refine (plan_do _ h b fb slots _ 3 f sl HP4.out (by have := HLN3.out; omega)).mono ?_
        rintro e w4 ⟨rfl, hp4, hu4⟩
        have HP5 := Lib.hid hp4
        have HU4 := Lib.hid (HU3.out.trans hu4)
        clear hp4 hu4
        go_wp2
        go_roundw
        case rel =>
          refine ⟨i, x - 1, _, by omega, by have := HX.out; omega, by go_num, HP5.out, HU4.out, ?_⟩
          rw [← HL.out, quadL, if_pos hgt, show ((f + i + 1 : Nat) : Int) = x by have := HX.out; omega]
          simp only [List.append_assoc]
        case measure => have := HX.out; simp [intOf]; omega
      · have h3 : x - 1 ≤ (f : Int) := by have := HX.out; omega
        go_wp2
        go_roundw
        case rel =>
          refine ⟨i, x - 1, _, by omega, by have := HX.out; omega, by go_num, HP4.out, HU3.out, ?_⟩
          rw [← HL.out, quadL, if_neg hgt, show ((f + i + 1 : Nat) : Int) = x by have := HX.out; omega]
          simp only [List.append_assoc, List.nil_append]
        case measure => have := HX.out; simp [intOf]; omega
    · have h1 : x ≤ (f : Int) := by omega
      obtain rfl : j = 0 := by omega
      clear hx
      have HP4 : Hid (PlanAt wr h b fb slots (l ++ quadL f sl (t - f))) := Lib.hid (by have := HP2.out; rw [← HL.out]; simpa [quadL] using this)
      go_wp2
      refine bodyPost_ret (v := .tuple #[]) (by simp [results, Try.results32, go_sem]) rfl ?_
      exact ⟨rfl, HP4.out, HU.out⟩
end Go.Proofs.Ytdanjghefhjmcaa
