/-
  Plain law: the whole plan runs through, and costs costF (chapter 28).
-/
import Derived.Test.YtdanjghefhjmcaaChPlanWa
namespace Go.Proofs.Ytdanjghefhjmcaa
open Go.RowKit
set_option linter.unusedVariables false

set_option maxRecDepth 100000 in
theorem quad_b : (all64 fun n => costT n 0 == triQ n) = true := by decide +kernel
theorem cost_quad (n : Nat) (hn : n ≤ 64) : costF n 0 = triQ n := by
  have := all64_spec quad_b n hn
  rw [beq_iff_eq] at this
  rw [costT_eq n 0 hn (by omega), this]

theorem Hold.mono {A B : Int} {st st' : PSt} {f : Nat} {sl : Int} (h : Hold A st f sl) (hAB : A ≤ B) (hk : ∀ i : Nat, (i : Int) < A → st'.held i = st.held i ∧ st'.full i = st.full i) : Hold B st' f sl := by
  rcases h with h | ⟨a, b, c, d⟩
  · exact Or.inl h
  · have := hk sl.toNat (by omega)
    exact Or.inr ⟨a, by omega, by rw [this.2, c], by rw [this.1, d]⟩

theorem Runs.main (N S : Nat) (hN : N ≤ 64) (hS : S ≤ 64) : ∀ (k f n : Nat) (sl : Int) (fr : Nat) (st : PSt), n ≤ k → f + n ≤ N → fr ≤ S → st.now = (f : Int) → st.left = ((f + n : Nat) : Int) → Hold ((S : Int) - fr) st f sl →
    ∃ st', Runs N S st (revF S k f (f + n) sl fr) (costF n fr) st' ∧ st'.left = (f : Int) ∧ ∀ i : Nat, (i : Int) < (S : Int) - fr → st'.held i = st.held i ∧ st'.full i = st.full i
  | 0, f, n, sl, fr, st, hk, ht, hfr, h1, h2, hh => by
    obtain rfl : n = 0 := by omega
    rw [low_zero 0 fr (by omega) (by omega)]
    exact ⟨st, Runs.nil _ _ _, h2, fun _ _ => ⟨rfl, rfl⟩⟩
  | k + 1, f, n, sl, fr, st, hk, ht, hfr, h1, h2, hh => by
    by_cases n0 : n = 0
    · subst n0
      rw [low_zero 0 fr (by omega) (by omega), revF, if_pos (Nat.add_zero f)]
      exact ⟨st, Runs.nil _ _ _, h2, fun _ _ => ⟨rfl, rfl⟩⟩
    by_cases n1 : n = 1
    · subst n1
      rw [low_zero 1 fr (by omega) (by omega), revF, if_neg (by omega), if_pos rfl]
      exact ⟨_, Runs.rev h1 h2, rfl, fun _ _ => ⟨rfl, rfl⟩⟩
    by_cases hz : fr = 0
    · subst hz
      obtain ⟨st', q1, q2, q3, q4⟩ := Runs.quad (N := N) (S := S) f sl n st h1 h2 (by omega) (hh.mono (by omega) fun _ _ => ⟨rfl, rfl⟩)
      rw [cost_quad n (by omega), revF, if_neg (by omega), if_neg (by omega), if_pos rfl, show f + n - f = n by omega]
      exact ⟨st', q1, q2, fun i _ => by rw [q3, q4]; exact ⟨rfl, rfl⟩⟩
    obtain ⟨a1, a2, a3⟩ := first_split n fr (by omega) (by omega) (by omega) (by omega)
    rw [a3, revF, if_neg (by omega), if_neg (by omega), if_neg hz, show f + n - f = n by omega]
    generalize firstF n fr = m at *
    have p1 := Runs.adv (N := N) (S := S) f m st h1 (by omega)
    have p2 := p1.comp (Runs.store (N := N) (S := S) (st := { st with now := ((f + m : Nat) : Int) }) (f := f + m) (sl := (S : Int) - fr) rfl (by omega) (by omega))
    obtain ⟨s3, q1, q2, q3⟩ := Runs.main N S hN hS k (f + m) (n - m) ((S : Int) - fr) (fr - 1) { ({ st with now := ((f + m : Nat) : Int) } : PSt) with held := fun i => if i = ((S : Int) - fr).toNat then ((f + m : Nat) : Int) else st.held i, full := fun i => if i = ((S : Int) - fr).toNat then true else st.full i } (by omega) (by omega) (by omega) rfl (by show st.left = _; rw [h2]; omega) (Or.inr ⟨by omega, by omega, by simp, by simp⟩)
    rw [show f + m + (n - m) = f + n by omega] at q1
    have p3 := p2.comp q1
    have keep : ∀ i : Nat, (i : Int) < (S : Int) - fr → s3.held i = st.held i ∧ s3.full i = st.full i := fun i hi => by
      obtain ⟨g1, g2⟩ := q3 i (by omega)
      have hne : i ≠ ((S : Int) - fr).toNat := by omega
      exact ⟨g1.trans (if_neg hne), g2.trans (if_neg hne)⟩
    have p4 := p3.comp (Runs.restore (N := N) (S := S) (f := f) (sl := sl) (hh.mono (by omega) keep))
    obtain ⟨s5, r1, r2, r3⟩ := Runs.main N S hN hS k f m sl fr { s3 with now := (f : Int) } (by omega) (by omega) hfr rfl q2 (hh.mono (by omega) keep)
    refine ⟨s5, ?_, r2, fun i hi => ?_⟩
    · have := p4.comp r1
      simpa only [Nat.add_zero] using this
    · obtain ⟨g1, g2⟩ := r3 i hi
      obtain ⟨g3, g4⟩ := keep i hi
      exact ⟨g1.trans g3, g2.trans g4⟩
end Go.Proofs.Ytdanjghefhjmcaa
