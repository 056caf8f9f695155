/-
  The planner's recursion: the program writes revF (chapter 28, the program's side).
-/
import Derived.Test.YtdanjghefhjmcaaChPlanS
namespace Go.Proofs.Ytdanjghefhjmcaa
open Go.ChangeShapes Go.WideShapes Go.ChangeAt Go.RowKit
set_option linter.unusedVariables false
set_option linter.unusedSimpArgs false

set_option maxHeartbeats 4000000 in
set_option maxRecDepth 100000 in
theorem plan_rev0 (w : World) (h b fb : Nat) (slots : Int) (l : List Actn) (f : Nat) (sl u : Int) (hf : f ≤ 64) (hp : PlanAt w h b fb slots l) :
    Calls Try.prog 32 #[.pointer (some ⟨b, 0, none⟩), .int .i64 f, .int .i64 f, .int .i64 sl, .int .i64 u] w fun e w' => e = .returned (.tuple #[]) ∧ PlanAt w' h b fb slots l ∧ UpPlan h b w w' := by
  have HP := Lib.hid hp
  clear hp
  have hf64 : (f : Int) ≤ 64 := by omega
  go_enter Try.func32, Try.ntmps32
  go_wp2
  refine bodyPost_ret (v := .tuple #[]) (by simp [results, Try.results32, go_sem]) rfl ?_
  exact ⟨rfl, HP.out, UpPlan.refl _ _ _⟩

set_option maxHeartbeats 4000000 in
set_option maxRecDepth 100000 in
theorem plan_rev1 (w : World) (h b fb : Nat) (slots : Int) (l : List Actn) (f : Nat) (y sl u : Int) (hy : y = (f : Int) + 1) (hf : f < 64) (hp : PlanAt w h b fb slots l) (hl : l.length ≤ 60000) :
    Calls Try.prog 32 #[.pointer (some ⟨b, 0, none⟩), .int .i64 f, .int .i64 y, .int .i64 sl, .int .i64 u] w fun e w' => e = .returned (.tuple #[]) ∧ PlanAt w' h b fb slots (l ++ [((4 : Int), y, (0 : Int))]) ∧ UpPlan h b w w' := by
  have HP := Lib.hid hp
  clear hp
  have hf64 : (f : Int) < 64 := by omega
  have t1 : ((f : Int) == y) = false := by simp; omega
  have t2 : (y == (f : Int) + 1) = true := by simp; omega
  have HY := Lib.hid hy
  clear hy
  go_enter Try.func32, Try.ntmps32
  go_wp2_with fail
  refine (plan_do _ h b fb slots _ 4 y 0 HP.out (by omega)).mono ?_
  rintro e w3 ⟨rfl, hp3, hu3⟩
  have HP4 := Lib.hid hp3
  have HU3 := Lib.hid hu3
  clear hp3 hu3
  go_wp2
  refine bodyPost_ret (v := .tuple #[]) (by simp [results, Try.results32, go_sem]) rfl ?_
  exact ⟨rfl, HP4.out, HU3.out⟩

set_option maxHeartbeats 4000000 in
set_option maxRecDepth 100000 in
theorem plan_reverse (h b fb S : Nat) (hS : S ≤ 64) : ∀ (k f n : Nat) (sl : Int) (fr : Nat) (w : World) (l : List Actn) (y u : Int), y = (f : Int) + n → u = fr → f + n ≤ 64 → n ≤ k → fr ≤ S → l.length + 2 * (n * n) ≤ 50000 → PlanAt w h b fb S l → FirstAt w h b fb →
    Calls Try.prog 32 #[.pointer (some ⟨b, 0, none⟩), .int .i64 f, .int .i64 y, .int .i64 sl, .int .i64 u] w fun e w' => e = .returned (.tuple #[]) ∧ PlanAt w' h b fb S (l ++ revF S k f (f + n) sl fr) ∧ UpPlan h b w w' := by
  intro k
  induction k with
  | zero =>
    intro f n sl fr w l y u hy hu ht hk hfr hl hp hF
    obtain rfl : n = 0 := by omega
    obtain rfl : y = f := by omega
    have := plan_rev0 w h b fb S l f sl u (by omega) hp
    simpa [revF] using this
  | succ k ih =>
    intro f n sl fr w l y u hy hu ht hk hfr hl hp hF
    by_cases n0 : n = 0
    · subst n0
      obtain rfl : y = f := by omega
      have := plan_rev0 w h b fb S l f sl u (by omega) hp
      simpa [revF] using this
    by_cases n1 : n = 1
    · subst n1
      have := plan_rev1 w h b fb S l f y sl u (by omega) (by omega) hp (by omega)
      have e : revF S (k + 1) f (f + 1) sl fr = [((4 : Int), y, (0 : Int))] := by
        rw [revF, if_neg (by omega), if_pos rfl, show ((f + 1 : Nat) : Int) = y by omega]
      rw [e]; exact this
    by_cases hz : fr = 0
    · subst hz
      obtain rfl : y = ((f + n : Nat) : Int) := by omega
      obtain rfl : u = 0 := by omega
      have := plan_quad w h b fb S l f (f + n) sl (by omega) (by omega) hp (by omega)
      have e : revF S (k + 1) f (f + n) sl 0 = quadL f sl (f + n - f) := by
        rw [revF, if_neg (by omega), if_neg (by omega), if_pos rfl]
      rw [e]; exact this
    obtain ⟨a1, a2, _⟩ := first_split n fr (by omega) (by omega) (by omega) (by omega)
    have hcell := hF.tab.cell n fr (by omega) (by omega)
    have e : revF S (k + 1) f (f + n) sl fr = advL f (f + firstF n fr) ++ [((2 : Int), ((f + firstF n fr : Nat) : Int), (S : Int) - fr)] ++ revF S k (f + firstF n fr) (f + n) ((S : Int) - fr) (fr - 1) ++ [((3 : Int), (f : Int), sl)] ++ revF S k f (f + firstF n fr) sl fr := by
      rw [revF, if_neg (by omega), if_neg (by omega), if_neg hz, show f + n - f = n by omega]
    obtain ⟨m, hm⟩ : ∃ m, firstF n fr = m := ⟨_, rfl⟩
    rw [hm] at a1 a2 hcell e
    rw [e]
    clear e hm
    have q3 := split_sq m (n - m) (by omega) (by omega)
    rw [show m + (n - m) = n by omega] at q3
    obtain ⟨a, cap, hrow, hown, hbh, hsz⟩ := id hp
    have c0 : w.cell? ⟨b, 0, none⟩ = some (.pointer (some ⟨fb, 0, none⟩)) := cell_of_row _ _ _ _ _ _ hrow
    have z0 := fun o => frozen_of_row _ _ o _ _ hrow
    have z1 := hF.tab.froz
    have c1 : w.cell? ⟨b, 1, none⟩ = some (.int .i64 S) := cell_of_row _ _ _ _ _ _ hrow
    have HP := Lib.hid hp
    have HF := Lib.hid hF
    have HY := Lib.hid hy
    have HQ := Lib.hid q3
    have HLN := Lib.hid hl
    have HIH := Lib.hid ih
    have t1 : ((f : Int) == y) = false := by simp; omega
    have t2 : (y == (f : Int) + 1) = false := by simp; omega
    have t3 : (u == 0) = false := by simp; omega
    have hix : (y.toNat - f) * 65 + u.toNat = n * 65 + fr := by rw [show y.toNat - f = n by omega, show u.toNat = fr by omega]
    have b1 : (f : Int) < y := by omega
    have b2 : y ≤ 64 := by omega
    have b3 : (0 : Int) ≤ u := by omega
    have b4 : u ≤ 64 := by omega
    have b5 : (f : Int) + m ≤ 64 := by omega
    have b6 : u ≤ (S : Int) := by omega
    have b7 : (S : Int) ≤ 64 := by omega
    have b8 : y - (f : Int) ≤ 64 := by omega
    have HU0 := Lib.hid hu
    clear hp hF hy q3 hl ih hrow hown hu
    go_enter Try.func32, Try.ntmps32
    go_wp2_with fail
    refine (plan_advance _ h b fb S _ f (f + m) f ((f : Int) + m) rfl (by omega) (by omega) (by omega) HP.out (by have := HLN.out; omega)).mono ?_
    rintro e w2 ⟨rfl, hp2, hu2⟩
    have HP2 := Lib.hid hp2
    have HU2 := Lib.hid hu2
    have HF2 := Lib.hid (HF.out.up hu2)
    have HL2 : Hid ((l ++ advL f (f + m)).length = l.length + m) := Lib.hid (by rw [List.length_append, advL_len]; omega)
    clear hp2 hu2
    go_wp2_with fail
    refine (plan_do _ h b fb S _ 2 ((f : Int) + m) ((S : Int) - u) HP2.out (by have := HL2.out; have := HLN.out; have := HQ.out; omega)).mono ?_
    rintro e w3 ⟨rfl, hp3, hu3⟩
    have HP3 := Lib.hid hp3
    have HU3 := Lib.hid (HU2.out.trans hu3)
    have HF3 := Lib.hid (HF2.out.up hu3)
    have HL3 : Hid ((l ++ advL f (f + m) ++ [((2 : Int), (f : Int) + m, (S : Int) - u)]).length = l.length + m + 1) := Lib.hid (by rw [List.length_append, HL2.out]; rfl)
    clear hp3 hu3
    have H1 := Lib.hid (show Calls Try.prog 32 #[.pointer (some ⟨b, 0, none⟩), .int .i64 ((f : Int) + m), .int .i64 y, .int .i64 ((S : Int) - u), .int .i64 (u - 1)] w3 (fun e w' => e = .returned (.tuple #[]) ∧ PlanAt w' h b fb S (l ++ advL f (f + m) ++ [((2 : Int), (f : Int) + m, (S : Int) - u)] ++ revF S k (f + m) (f + n) ((S : Int) - fr) (fr - 1)) ∧ UpPlan h b w3 w') from by
      have := HIH.out (f + m) (n - m) ((S : Int) - fr) (fr - 1) w3 _ y (u - 1) (by have := HY.out; omega) (by have := HU0.out; omega) (by omega) (by omega) (by omega) (by have := HL3.out; have := HLN.out; have := HQ.out; omega) HP3.out HF3.out
      rw [show f + m + (n - m) = f + n by omega, show (((f + m : Nat) : Int)) = (f : Int) + m by omega] at this
      rw [HU0.out] at this ⊢
      exact this)
    go_wp2_with fail
    refine H1.out.mono ?_
    rintro e w4 ⟨rfl, hp4, hu4⟩
    have HP4 := Lib.hid hp4
    have HU4 := Lib.hid (HU3.out.trans hu4)
    have HF4 := Lib.hid (HF3.out.up hu4)
    have HL4 : Hid ((l ++ advL f (f + m) ++ [((2 : Int), (f : Int) + m, (S : Int) - u)] ++ revF S k (f + m) (f + n) ((S : Int) - fr) (fr - 1)).length ≤ l.length + m + 1 + 2 * ((n - m) * (n - m))) := Lib.hid (by
      have := revF_len S k (f + m) (f + n) ((S : Int) - fr) (fr - 1) (by omega) (by omega) (by omega)
      rw [show f + n - (f + m) = n - m by omega] at this
      rw [List.length_append, HL3.out]; omega)
    clear hp4 hu4 H1
    go_wp2_with fail
    refine (plan_do _ h b fb S _ 3 f sl HP4.out (by have := HL4.out; have := HLN.out; have := HQ.out; omega)).mono ?_
    rintro e w5 ⟨rfl, hp5, hu5⟩
    have HP5 := Lib.hid hp5
    have HU5 := Lib.hid (HU4.out.trans hu5)
    have HF5 := Lib.hid (HF4.out.up hu5)
    clear hp5 hu5
    go_wp2_with fail
    refine (HIH.out f m sl fr w5 _ ((f : Int) + m) u rfl HU0.out (by omega) (by omega) (by omega) (by have := HL4.out; have := HLN.out; have := HQ.out; rw [List.length_append, List.length_singleton]; omega) HP5.out HF5.out).mono ?_
    rintro e w6 ⟨rfl, hp6, hu6⟩
    have HP6 := Lib.hid hp6
    have HU6 := Lib.hid (HU5.out.trans hu6)
    clear hp6 hu6
    go_wp2
    go_end0
    refine ⟨rfl, ?_, HU6.out⟩
    have := HP6.out
    rw [HU0.out] at this
    rw [show ((f + m : Nat) : Int) = (f : Int) + m by omega]
    simpa only [List.append_assoc] using this
end Go.Proofs.Ytdanjghefhjmcaa
