/-
  Merged by a program (tools/mrg.py): PvR, PvT.
-/
import Derived.Test.YtbpojmhgifgfdaaDoorPvF
import Derived.Test.YtbpojmhgifgfdaaDoorPvS

section
namespace Go.Proofs.YtbpojmhgifgfdaaDoor
open Go.ChangeShapes Go.WideShapes Go.ChangeAt Go.RowKit
set_option linter.unusedVariables false
set_option linter.unusedSimpArgs false
set_option maxRecDepth 100000

theorem wholV_R (n : Int) : R64 (wholV n).1 := by
  unfold wholV R64
  split
  · exact ⟨by decide, by decide⟩
  · dsimp only; omega
theorem wholF_R (op a b : Int) : R64 (wholF op a b).1 := by
  unfold wholF
  repeat' split
  all_goals first | exact wholV_R _ | exact ⟨by decide, by decide⟩
theorem fitV_R (P v : Int) (h1 : 2 ≤ P) (h2 : P ≤ 1073741824) : R64 (fitV P v) := by
  unfold fitV R64
  omega
theorem fixF_R (bi fr ro ov op a b : Int) (h1 : 2 ≤ bi) (h2 : bi ≤ 31) : R64 (fixF bi fr ro ov op a b).1 := by
  obtain ⟨p1, p2⟩ := pow_bd2 bi h1 h2
  unfold fixF fitF
  repeat' split
  all_goals first | exact fitV_R _ _ p1 p2 | exact ⟨by decide, by decide⟩
theorem quo_R (x g : Int) (h : ¬ 2147483647 < x / g) (h0 : 0 ≤ x / g) : R64 (x / g) ∧ R64 (-(x / g)) := by
  generalize x / g = y at *
  unfold R64
  omega
theorem newF_R (n d : Int) : R64 (newF n d).1 := by
  obtain ⟨g, hg⟩ : ∃ g, (Int.gcd n d : Int) = g := ⟨_, rfl⟩
  have hg0 : 0 ≤ g := by rw [← hg]; omega
  unfold newF
  rw [hg]
  split
  · exact ⟨by decide, by decide⟩
  · split
    · exact ⟨by decide, by decide⟩
    · rename_i h1 h2
      have h3 : ¬ 2147483647 < mag n / g := fun h => h2 (.inl h)
      have h4 : 0 ≤ mag n / g := Int.ediv_nonneg (mag_nonneg n) hg0
      obtain ⟨q1, q2⟩ := quo_R (mag n) g h3 h4
      split
      · exact q2
      · exact q1
theorem zero_R : R64 0 := ⟨by decide, by decide⟩
theorem addF_R (n d p q : Int) : R64 (addF n d p q).1 := by
  unfold addF
  split
  · exact newF_R _ _
  · exact zero_R
theorem subF_R (n d p q : Int) : R64 (subF n d p q).1 := by
  unfold subF
  split
  · exact newF_R _ _
  · exact zero_R
theorem mulF_R (n d p q : Int) : R64 (mulF n d p q).1 := by
  unfold mulF
  split
  · exact newF_R _ _
  · exact zero_R
theorem divF_R (n d p q : Int) : R64 (divF n d p q).1 := by
  unfold divF
  split
  · exact newF_R _ _
  · exact zero_R
theorem negF_R (n d : Int) : R64 (negF n d).1 := by
  unfold negF
  split
  · exact r64_wrap _
  · exact zero_R
theorem coreF_R (op : Int) (t : Typ) (ht : typB t = true) (n d p q : Int) (hn : R64 n) (hp : R64 p) : R64 (coreF op t n d p q).1 := by
  obtain ⟨kd, bi, fr, ro, ov⟩ := t
  unfold coreF
  by_cases h9 : op = 9 ∨ op = 10
  · rw [if_pos h9]
    unfold minmaxF
    split
    · exact hp
    · exact hn
  · rw [if_neg h9]
    by_cases h2 : kd = 2
    · subst h2
      rw [if_pos rfl]
      obtain ⟨g1, g2, _, _⟩ := typB_fix ht
      exact fixF_R bi fr ro ov op n p g1 g2
    · rw [if_neg h2]
      by_cases h3 : kd = 3
      · rw [if_pos h3]; exact wholF_R _ _ _
      · rw [if_neg h3]
        by_cases h4 : op = 4
        · rw [if_pos h4]; exact addF_R _ _ _ _
        · rw [if_neg h4]
          by_cases h5 : op = 5
          · rw [if_pos h5]; exact subF_R _ _ _ _
          · rw [if_neg h5]
            by_cases h6 : op = 6
            · rw [if_pos h6]; exact mulF_R _ _ _ _
            · rw [if_neg h6]
              by_cases h7 : op = 7
              · rw [if_pos h7]; exact divF_R _ _ _ _
              · rw [if_neg h7]; exact negF_R _ _
theorem applF_R (op : Int) (t : Typ) (n d p q : Int) (hn : R64 n) (hp : R64 p) : R64 (applF op t n d p q).1 := by
  unfold applF
  by_cases h1 : op < 4 ∨ 10 < op
  · rw [if_pos h1]; exact zero_R
  · rw [if_neg h1]
    by_cases h2 : typB t = false
    · rw [if_pos h2]; exact zero_R
    · rw [if_neg h2]
      by_cases h3 : valT t n d = false ∨ (op ≠ 8 ∧ valT t p q = false)
      · rw [if_pos h3]; exact zero_R
      · rw [if_neg h3]; exact coreF_R op t (by simpa using h2) n d p q hn hp
end Go.Proofs.YtbpojmhgifgfdaaDoor
end

section
namespace Go.Proofs.YtbpojmhgifgfdaaDoor
open Go.ChangeShapes Go.WideShapes Go.ChangeAt Go.RowKit
set_option linter.unusedVariables false
set_option linter.unusedSimpArgs false
set_option maxRecDepth 100000

theorem val_op {x : Ins} {many types words : Int} (h : valB x many types words = true) : 0 ≤ x.1 ∧ x.1 < 17 := by
  unfold valB at h
  rw [wf_form, Bool.and_eq_true] at h
  have h := h.1
  unfold formB at h
  rw [Bool.and_eq_true] at h
  have h := h.1
  unfold knownB at h
  simpa using h
theorem val_fields {x : Ins} {many types words : Int} (h : valB x many types words = true) : fieldB (kdN x.1.toNat 0) x.2.1 = true ∧ fieldB (kdN x.1.toNat 1) x.2.2.1 = true ∧ fieldB (kdN x.1.toNat 2) x.2.2.2.1 = true ∧ vlB x = true ∧ (typedB x.1 = true → typB x.2.2.2.2.2 = true) := by
  unfold valB at h
  rw [wf_form, Bool.and_eq_true] at h
  have h := h.1
  unfold formB at h
  simp only [Bool.and_eq_true] at h
  refine ⟨h.2.1, h.2.2.1, h.2.2.2.1, h.2.2.2.2.1, fun ht => ?_⟩
  have h5 := h.2.2.2.2.2
  rw [if_pos ht] at h5
  exact h5
theorem val_mem {x : Ins} {many types words : Int} (h : valB x many types words = true) (ho : x.1 = 10 ∨ x.1 = 11) : x.2.2.2.1 ≤ words := by
  unfold valB at h
  rw [Bool.and_eq_true] at h
  have h := h.2
  rw [if_neg (by unfold jumpsB; simp; omega), if_pos ho] at h
  simpa using h
theorem val_cast {x : Ins} {many types words : Int} (h : valB x many types words = true) (ho : x.1 = 13) : x.2.2.2.2.1.1 < types := by
  unfold valB at h
  rw [Bool.and_eq_true] at h
  have h := h.2
  rw [if_neg (by unfold jumpsB; simp; omega), if_neg (by omega), if_pos ho] at h
  simpa using h
theorem fld_x {n : Int} (h : fieldB 120 n = true) : 0 ≤ n ∧ n ≤ 255 := by
  unfold fieldB at h
  rw [if_neg (by decide), if_pos (.inl rfl)] at h
  unfold inB at h; simpa using h
theorem fld_r {n : Int} (h : fieldB 114 n = true) : 0 ≤ n ∧ n ≤ 255 := by
  unfold fieldB at h
  rw [if_neg (by decide), if_pos (.inr rfl)] at h
  unfold inB at h; simpa using h
theorem fld_n {n : Int} (h : fieldB 110 n = true) : -2147483647 ≤ n ∧ n ≤ 2147483647 := by
  unfold fieldB at h
  rw [if_neg (by decide), if_neg (by decide), if_neg (by decide), if_pos rfl] at h
  unfold inB at h; simpa using h
theorem fld_c {n : Int} (h : fieldB 99 n = true) : 0 ≤ n ∧ n ≤ 1048576 := by
  unfold fieldB at h
  rw [if_neg (by decide), if_neg (by decide), if_neg (by decide), if_neg (by decide), if_pos rfl] at h
  unfold inB at h; simpa using h

/-! ### The numbers stay in 64 bits -/
theorem flF_R (n d : Int) : R64 (flF n d) := by
  unfold flF
  split <;> exact r64_wrap _
theorem valueF_R (t : Typ) (n d : Int) (hn : R64 n) : R64 (valueF t n d).1 := by
  obtain ⟨y, hy⟩ : ∃ y, newF n (stF t.2.2.1) = y := ⟨_, rfl⟩
  have h := newF_R n (stF t.2.2.1)
  rw [hy] at h
  have e : valueF t n d = if t.1 = 2 then (y.1, y.2.1) else (n, d) := by unfold valueF; rw [hy]
  rw [e]
  by_cases ht : t.1 = 2
  · rw [if_pos ht]; exact h
  · rw [if_neg ht]; exact hn
theorem castF_R (f t : Typ) (n d : Int) (hn : R64 n) : R64 (castF f t n d).1 := by
  have hv := valueF_R f n d hn
  unfold castF
  generalize valueF f n d = y at *
  by_cases h1 : typB f = false ∨ typB t = false
  · rw [if_pos h1]; exact zero_R
  · rw [if_neg h1]
    by_cases h2 : valT f n d = false
    · rw [if_pos h2]; exact zero_R
    · rw [if_neg h2]
      by_cases h3 : t.1 = 3
      · rw [if_pos h3]; exact flF_R _ _
      · rw [if_neg h3]
        by_cases h4 : t.1 = 2
        · rw [if_pos h4]
          obtain ⟨kd, bi, fr, ro, ov⟩ := t
          obtain rfl : kd = 2 := h4
          obtain ⟨hb1, hb2, hf1, hf2⟩ := typB_fix (show typB (2, bi, fr, ro, ov) = true by
            cases h : typB (2, bi, fr, ro, ov) with
            | true => rfl
            | false => exact absurd (.inr h) h1)
          obtain ⟨p1, p2⟩ := pow_bd2 bi hb1 hb2
          exact fitV_R _ _ p1 p2
        · rw [if_neg h4]; exact hv
theorem getD_set {α : Type} (P : α → Prop) (l : List α) (a k : Nat) (v d : α) (h : ∀ k, P (l.getD k d)) (hv : P v) : P ((l.set a v).getD k d) := by
  rw [List.getD_eq_getElem?_getD, List.getElem?_set]
  by_cases h1 : a = k
  · rw [if_pos h1]
    split
    · exact hv
    · have := h l.length
      rwa [List.getD_eq_getElem?_getD, List.getElem?_eq_none (Nat.le_refl _)] at this
  · rw [if_neg h1, ← List.getD_eq_getElem?_getD]; exact h k
theorem getD_stL {P : Int × Int → Prop} {M : List (Int × Int)} {q : Nat} {v : Int × Int} (h : ∀ k, P (M.getD k (0, 0))) (hv : P v) (k : Nat) : P ((stL M q [v]).getD k (0, 0)) := by
  have h0 : P (0, 0) := by
    have := h M.length
    rwa [List.getD_eq_getElem?_getD, List.getElem?_eq_none (Nat.le_refl _)] at this
  have hall : ∀ y ∈ stL M q [v], P y := fun y hy => by
    unfold stL at hy
    rcases List.mem_append.1 hy with hy | hy
    · rcases List.mem_append.1 hy with hy | hy
      · obtain ⟨i, hi, rfl⟩ := List.getElem_of_mem (List.mem_of_mem_take hy)
        have := h i
        rwa [List.getD_eq_getElem?_getD, List.getElem?_eq_getElem hi] at this
      · rw [List.mem_singleton.1 hy]; exact hv
    · obtain ⟨i, hi, rfl⟩ := List.getElem_of_mem (List.mem_of_mem_drop hy)
      have := h i
      rwa [List.getD_eq_getElem?_getD, List.getElem?_eq_getElem hi] at this
  by_cases hk : k < (stL M q [v]).length
  · rw [List.getD_eq_getElem?_getD, List.getElem?_eq_getElem hk]
    exact hall _ (List.getElem_mem hk)
  · rw [List.getD_eq_getElem?_getD, List.getElem?_eq_none (by omega)]; exact h0
theorem good_X {s : St} (hg : Good s) (a : Nat) {v : Int} (hv : R64 v) : Good { s with X := s.X.set a v } := ⟨fun k => getD_set R64 _ _ _ _ _ hg.1 hv, hg.2.1, hg.2.2⟩
theorem good_R {s : St} (hg : Good s) (a : Nat) {v : Int × Int} (hv : R64 v.1) : Good { s with R := s.R.set a v } := ⟨hg.1, fun k => getD_set (fun y : Int × Int => R64 y.1) _ _ _ _ _ hg.2.1 hv, hg.2.2⟩
theorem good_M {s : St} (hg : Good s) (q : Nat) {v : Int × Int} (hv : R64 v.1) : Good { s with M := stL s.M q [v] } := ⟨hg.1, hg.2.1, fun k => getD_stL (P := fun y : Int × Int => R64 y.1) hg.2.2 hv k⟩
theorem lay3_good {x : Ins} {s s' : St} {r : Int × Int × Int} {j : Bool} (hg : Good s) (hr : R64 r.1) (h : lay3 x s r = .go j s') : Good s' := by
  unfold lay3 at h
  split at h
  · injection h with _ h; subst h; exact good_R hg _ hr
  · cases h
theorem keep_one {ts : List Typ} {x : Ins} {many types words : Int} (hv : valB x many types words = true) {s s' : St} {j : Bool} (hg : Good s) (h : exF ts x s = .go j s') : Good s' := by
  obtain ⟨f1, f2, f3, f4, f5⟩ := val_fields hv
  have hX := hg.1
  have hR := hg.2.1
  have hM := hg.2.2
  unfold exF at h
  by_cases h0 : x.1 = 0
  · rw [if_pos h0] at h; cases h
  rw [if_neg h0] at h
  by_cases h7 : x.1 = 7
  · rw [if_pos h7] at h; injection h with _ h; exact h ▸ hg
  rw [if_neg h7] at h
  by_cases h8 : x.1 = 8
  · rw [if_pos h8] at h; injection h with _ h; exact h ▸ hg
  rw [if_neg h8] at h
  by_cases h14 : x.1 = 14
  · rw [if_pos h14] at h
    split at h
    · injection h with _ h; exact h ▸ hg
    · cases h
  rw [if_neg h14] at h
  by_cases h10 : x.1 = 10
  · rw [if_pos h10] at h
    unfold memF at h
    split at h
    · cases h
    · injection h with _ h; subst h; exact good_R hg _ (hM _)
  rw [if_neg h10] at h
  by_cases h11 : x.1 = 11
  · rw [if_pos h11] at h
    unfold memF at h
    split at h
    · cases h
    · injection h with _ h; subst h; exact good_M hg _ (hR _)
  rw [if_neg h11] at h
  by_cases h9 : x.1 = 9
  · rw [if_pos h9] at h
    injection h with _ h; subst h
    refine good_R hg _ ?_
    unfold vlB at f4
    rw [if_pos h9] at f4
    unfold validF at f4
    simp only [decide_eq_true_eq] at f4
    exact ⟨by omega, by omega⟩
  rw [if_neg h9] at h
  by_cases h12 : x.1 = 12
  · rw [if_pos h12] at h
    exact lay3_good hg (applF_R _ _ _ _ _ _ (hR _) (hR _)) h
  rw [if_neg h12] at h
  by_cases h13 : x.1 = 13
  · rw [if_pos h13] at h
    exact lay3_good hg (castF_R _ _ _ _ (hR _)) h
  rw [if_neg h13] at h
  by_cases h16 : x.1 = 16
  · rw [if_pos h16] at h
    split at h
    · cases h
    · injection h with _ h; subst h; exact good_R hg _ (hX _)
  rw [if_neg h16] at h
  by_cases h1 : x.1 = 1
  · rw [if_pos h1] at h
    injection h with _ h; subst h
    rw [h1] at f2
    have := fld_n (n := x.2.2.1) f2
    exact good_X hg _ ⟨by omega, by omega⟩
  rw [if_neg h1] at h
  by_cases h2 : x.1 = 2
  · rw [if_pos h2] at h
    injection h with _ h; subst h; exact good_X hg _ (hX _)
  rw [if_neg h2] at h
  by_cases h3 : x.1 = 3
  · rw [if_pos h3] at h
    injection h with _ h; subst h; exact good_X hg _ (r64_wrap _)
  rw [if_neg h3] at h
  by_cases h4 : x.1 = 4
  · rw [if_pos h4] at h
    injection h with _ h; subst h; exact good_X hg _ (r64_wrap _)
  rw [if_neg h4] at h
  have a := hX (xB x)
  have b := hX (xC x)
  have c := hR (xB x)
  have d := r64_wrap (x.2.2.2.1 - 1)
  by_cases h5 : x.1 = 5
  · rw [if_pos h5] at h
    injection h with _ h; subst h
    exact good_X hg _ (by unfold R64 at *; omega)
  rw [if_neg h5] at h
  by_cases h6 : x.1 = 6
  · rw [if_pos h6] at h
    injection h with _ h; subst h
    exact good_X hg _ (by unfold R64 at *; omega)
  rw [if_neg h6] at h
  injection h with _ h; subst h
  exact good_X hg _ (by unfold R64 at *; omega)
theorem keepB (ts : List Typ) (words : Int) : KeepB ts words := fun l hv p s s' j hp hg h => keep_one (hv.2.2.2 _ (getD_mem hp)) hg h
end Go.Proofs.YtbpojmhgifgfdaaDoor
end
