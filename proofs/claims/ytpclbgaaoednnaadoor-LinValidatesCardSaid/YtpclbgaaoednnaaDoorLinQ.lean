/-
  Sums of forms with small numbers, in plain Lean.
-/
import Derived.Test.YtpclbgaaoednnaaDoorLinAd
import Derived.Test.YtpclbgaaoednnaaDoorLinNp
namespace Go.Proofs.YtpclbgaaoednnaaDoor
open Go.RowKit
set_option linter.unusedVariables false
set_option linter.unusedSimpArgs false

theorem u8_tri (a b : UInt8) : a < b ∨ a = b ∨ b < a := by
  rcases Nat.lt_trichotomy a.toNat b.toNat with h | h | h
  · exact Or.inl (UInt8.lt_iff_toNat_lt.2 h)
  · exact Or.inr (Or.inl (UInt8.toNat_inj.1 h))
  · exact Or.inr (Or.inr (UInt8.lt_iff_toNat_lt.2 h))
theorem u8_asymm {a b : UInt8} (h : a < b) : ¬ b < a := fun g => by
  have := UInt8.lt_iff_toNat_lt.1 h
  have := UInt8.lt_iff_toNat_lt.1 g
  omega
theorem u8_trans {a b c : UInt8} (h : a < b) (g : b < c) : a < c := UInt8.lt_iff_toNat_lt.2 (Nat.lt_trans (UInt8.lt_iff_toNat_lt.1 h) (UInt8.lt_iff_toNat_lt.1 g))
theorem u8_irrefl (a : UInt8) : ¬ a < a := fun g => by have := UInt8.lt_iff_toNat_lt.1 g; omega

theorem bl_iff (a b : UInt8) (x y : List UInt8) : Op.bytesLess (a :: x) (b :: y) = true ↔ a < b ∨ (a = b ∧ Op.bytesLess x y = true) := by
  simp [Op.bytesLess]
theorem bl_irrefl : ∀ x : List UInt8, Op.bytesLess x x = false
  | [] => rfl
  | a :: x => by
    rw [← Bool.not_eq_true, bl_iff]
    rintro (h | ⟨_, h⟩)
    · exact u8_irrefl a h
    · rw [bl_irrefl x] at h; cases h
theorem bl_asymm : ∀ x y : List UInt8, Op.bytesLess x y = true → Op.bytesLess y x = false
  | [], [], h => by cases h
  | [], _ :: _, _ => rfl
  | _ :: _, [], h => by cases h
  | a :: x, b :: y, h => by
    rw [← Bool.not_eq_true, bl_iff]
    rcases (bl_iff a b x y).1 h with h1 | ⟨rfl, h1⟩
    · rintro (g | ⟨rfl, _⟩)
      · exact u8_asymm h1 g
      · exact u8_irrefl _ h1
    · rintro (g | ⟨_, g⟩)
      · exact u8_irrefl _ g
      · rw [bl_asymm x y h1] at g; cases g
theorem bl_total : ∀ x y : List UInt8, Op.bytesLess x y = false → Op.bytesLess y x = false → x = y
  | [], [], _, _ => rfl
  | [], _ :: _, h, _ => by cases h
  | _ :: _, [], _, h => by cases h
  | a :: x, b :: y, h, g => by
    rw [← Bool.not_eq_true, bl_iff] at h g
    rcases u8_tri a b with k | rfl | k
    · exact absurd (Or.inl k) h
    · rw [bl_total x y (by rw [← Bool.not_eq_true]; exact fun e => h (Or.inr ⟨rfl, e⟩)) (by rw [← Bool.not_eq_true]; exact fun e => g (Or.inr ⟨rfl, e⟩))]
    · exact absurd (Or.inl k) g
theorem bl_trans : ∀ x y z : List UInt8, Op.bytesLess x y = true → Op.bytesLess y z = true → Op.bytesLess x z = true
  | _, [], _, h, _ => by simp [Op.bytesLess] at h
  | _, _ :: _, [], _, h => by cases h
  | [], _ :: _, _ :: _, _, _ => rfl
  | a :: x, b :: y, c :: z, h, g => by
    rw [bl_iff] at h g ⊢
    rcases h with h | ⟨rfl, h⟩
    · rcases g with g | ⟨rfl, g⟩
      · exact Or.inl (u8_trans h g)
      · exact Or.inl h
    · rcases g with g | ⟨rfl, g⟩
      · exact Or.inl g
      · exact Or.inr ⟨rfl, bl_trans x y z h g⟩

def putM (s : ByteArray) (c : Int) (r : List Mono) : List Mono := if c = 0 then r else (s, c) :: r
def sumM : List Mono → List Mono → List Mono
  | [], [] => []
  | m :: r, [] => putM m.1 m.2 (sumM r [])
  | [], m' :: r' => putM m'.1 m'.2 (sumM [] r')
  | m :: r, m' :: r' =>
    if Op.bytesLess m.1.toList m'.1.toList then putM m.1 m.2 (sumM r (m' :: r'))
    else if Op.bytesLess m'.1.toList m.1.toList then putM m'.1 m'.2 (sumM (m :: r) r')
    else putM m.1 (m.2 + m'.2) (sumM r r')
termination_by l l' => l.length + l'.length

theorem near_iff (n : Int) : nearB n = true ↔ -1048576 ≤ n ∧ n ≤ 1048576 := by simp [nearB]
theorem nearAll_cons (m : Mono) (l : List Mono) : nearAll (m :: l) = true ↔ nearB m.2 = true ∧ nearAll l = true := by simp [nearAll]

theorem stepA_near (acc : List Mono × Bool) (s : ByteArray) (x y : Int) (hx : -1048576 ≤ x ∧ x ≤ 1048576) (hy : -1048576 ≤ y ∧ y ≤ 1048576) :
    stepA acc s x y = (acc.1 ++ putM s (x + y) [], acc.2) := by
  have hw : wrap64 (x + y) = x + y := by unfold wrap64; omega
  have hf : fitB (x + y) = true := fit_true (by omega)
  unfold stepA putM
  rw [hw, hf, Bool.and_true]
  split <;> simp
theorem put_app (s : ByteArray) (c : Int) (l r : List Mono) : l ++ putM s c r = l ++ putM s c [] ++ r := by
  unfold putM; split <;> simp

theorem merge_sum (l l' : List Mono) (acc : List Mono × Bool) (h : nearAll l = true) (h' : nearAll l' = true) : mergeF l l' acc = (acc.1 ++ sumM l l', acc.2) := by
  induction l, l', acc using mergeF.induct with
  | case1 acc => rw [mergeF, sumM]; simp
  | case2 m r acc ih =>
    obtain ⟨h1, h2⟩ := (nearAll_cons _ _).1 h
    rw [mergeF, ih h2 h', stepA_near _ _ _ _ ((near_iff _).1 h1) ⟨by omega, by omega⟩, sumM, Int.add_zero]
    exact Prod.ext (put_app _ _ _ _).symm rfl
  | case3 m' r' acc ih =>
    obtain ⟨h1, h2⟩ := (nearAll_cons _ _).1 h'
    rw [mergeF, ih h h2, stepA_near _ _ _ _ ⟨by omega, by omega⟩ ((near_iff _).1 h1), sumM, Int.zero_add]
    exact Prod.ext (put_app _ _ _ _).symm rfl
  | case4 m r m' r' acc hc ih =>
    obtain ⟨h1, h2⟩ := (nearAll_cons _ _).1 h
    rw [mergeF, if_pos hc, ih h2 h', stepA_near _ _ _ _ ((near_iff _).1 h1) ⟨by omega, by omega⟩, sumM, if_pos hc, Int.add_zero]
    exact Prod.ext (put_app _ _ _ _).symm rfl
  | case5 m r m' r' acc hc hd ih =>
    obtain ⟨h1, h2⟩ := (nearAll_cons _ _).1 h'
    rw [mergeF, if_neg hc, if_pos hd, ih h h2, stepA_near _ _ _ _ ⟨by omega, by omega⟩ ((near_iff _).1 h1), sumM, if_neg hc, if_pos hd, Int.zero_add]
    exact Prod.ext (put_app _ _ _ _).symm rfl
  | case6 m r m' r' acc hc hd ih =>
    obtain ⟨h1, h2⟩ := (nearAll_cons _ _).1 h
    obtain ⟨h3, h4⟩ := (nearAll_cons _ _).1 h'
    rw [mergeF, if_neg hc, if_neg hd, ih h2 h4, stepA_near _ _ _ _ ((near_iff _).1 h1) ((near_iff _).1 h3), sumM, if_neg hc, if_neg hd]
    exact Prod.ext (put_app _ _ _ _).symm rfl

theorem name_eq {s t : ByteArray} (h : ¬ Op.bytesLess s.toList t.toList = true) (g : ¬ Op.bytesLess t.toList s.toList = true) : s = t :=
  toList_inj (bl_total _ _ (by simpa using h) (by simpa using g))

theorem sumM_comm (l l' : List Mono) : sumM l l' = sumM l' l := by
  induction l, l' using sumM.induct with
  | case1 => rfl
  | case2 m r ih => rw [sumM, sumM, ih]
  | case3 m' r' ih => rw [sumM, sumM, ih]
  | case4 m r m' r' hc ih =>
    have := bl_asymm _ _ hc
    rw [sumM, if_pos hc, ih]
    conv => rhs; rw [sumM, if_neg (by rw [this]; simp), if_pos hc]
  | case5 m r m' r' hc hd ih =>
    rw [sumM, if_neg hc, if_pos hd, ih]
    conv => rhs; rw [sumM, if_pos hd]
  | case6 m r m' r' hc hd ih =>
    have := name_eq hc hd
    rw [sumM, if_neg hc, if_neg hd, ih]
    conv => rhs; rw [sumM, if_neg hd, if_neg hc]
    rw [this, Int.add_comm]

theorem sumE_cons (env : List Mono) (m : Mono) (r : List Mono) (a : Int) : sumE env (m :: r) a = match lookE env m.1.toList with | none => none | some v => sumE env r (a + m.2 * v) := rfl
theorem sumE_put (env : List Mono) (s : ByteArray) (c v : Int) (r : List Mono) (a : Int) (h : lookE env s.toList = some v) : sumE env (putM s c r) a = sumE env r (a + c * v) := by
  unfold putM
  split
  · rename_i e; rw [e, Int.zero_mul, Int.add_zero]
  · rw [sumE_cons]; simp only [h]
theorem sumE_some {env : List Mono} {m : Mono} {r : List Mono} {a u : Int} (h : sumE env (m :: r) a = some u) : ∃ v, lookE env m.1.toList = some v ∧ sumE env r (a + m.2 * v) = some u := by
  rw [sumE_cons] at h
  cases hl : lookE env m.1.toList with
  | none => rw [hl] at h; cases h
  | some v => rw [hl] at h; exact ⟨v, rfl, h⟩

theorem sum_sumM (env : List Mono) (l l' : List Mono) : ∀ a a' u u' : Int, sumE env l a = some u → sumE env l' a' = some u' → sumE env (sumM l l') (a + a') = some (u + u') := by
  induction l, l' using sumM.induct with
  | case1 =>
    intro a a' u u' h h'
    have h1 : some a = some u := h
    have h2 : some a' = some u' := h'
    cases h1; cases h2
    rw [sumM]; rfl
  | case2 m r ih =>
    intro a a' u u' h h'
    obtain ⟨v, h1, h2⟩ := sumE_some h
    rw [sumM, sumE_put _ _ _ _ _ _ h1, ← ih _ _ _ _ h2 h']
    congr 1; omega
  | case3 m' r' ih =>
    intro a a' u u' h h'
    obtain ⟨v, h1, h2⟩ := sumE_some h'
    rw [sumM, sumE_put _ _ _ _ _ _ h1, ← ih _ _ _ _ h h2]
    congr 1; omega
  | case4 m r m' r' hc ih =>
    intro a a' u u' h h'
    obtain ⟨v, h1, h2⟩ := sumE_some h
    rw [sumM, if_pos hc, sumE_put _ _ _ _ _ _ h1, ← ih _ _ _ _ h2 h']
    congr 1; omega
  | case5 m r m' r' hc hd ih =>
    intro a a' u u' h h'
    obtain ⟨v, h1, h2⟩ := sumE_some h'
    rw [sumM, if_neg hc, if_pos hd, sumE_put _ _ _ _ _ _ h1, ← ih _ _ _ _ h h2]
    congr 1; omega
  | case6 m r m' r' hc hd ih =>
    intro a a' u u' h h'
    obtain ⟨v, h1, h2⟩ := sumE_some h
    obtain ⟨v', h3, h4⟩ := sumE_some h'
    have e := name_eq hc hd
    rw [← e, h1] at h3
    cases h3
    rw [sumM, if_neg hc, if_neg hd, sumE_put _ _ _ _ _ _ h1, ← ih _ _ _ _ h2 h4]
    congr 1
    rw [Int.add_mul]; omega

theorem okFrom_cons (p : Option (List UInt8)) (m : Mono) (r : List Mono) : okFrom p (m :: r) = true ↔ nameB m.1.toList = true ∧ m.2 ≠ 0 ∧ prevOk p m.1.toList = true ∧ okFrom (some m.1.toList) r = true := by
  obtain ⟨s, b⟩ := m
  show (nameB s.toList && decide (b ≠ 0) && prevOk p s.toList && okFrom (some s.toList) r) = true ↔ _
  simp [and_assoc]
theorem prev_trans {p : Option (List UInt8)} {s t : List UInt8} (h : prevOk p s = true) (g : Op.bytesLess s t = true) : prevOk p t = true := by
  cases p with
  | none => rfl
  | some q => exact bl_trans q s t h g
theorem okFrom_weak {p : Option (List UInt8)} {s : List UInt8} (h : prevOk p s = true) : ∀ r : List Mono, okFrom (some s) r = true → okFrom p r = true
  | [], _ => rfl
  | m :: r, g => by
    obtain ⟨h1, h2, h3, h4⟩ := (okFrom_cons _ _ _).1 g
    exact (okFrom_cons _ _ _).2 ⟨h1, h2, prev_trans h h3, h4⟩
theorem okFrom_put {p : Option (List UInt8)} {s : ByteArray} {c : Int} {r : List Mono} (h1 : nameB s.toList = true) (h2 : prevOk p s.toList = true) (h3 : okFrom (some s.toList) r = true) : okFrom p (putM s c r) = true := by
  unfold putM
  split
  · exact okFrom_weak h2 r h3
  · rename_i e
    exact (okFrom_cons _ _ _).2 ⟨h1, e, h2, h3⟩

theorem ok_sumM (l l' : List Mono) : ∀ p, okFrom p l = true → okFrom p l' = true → okFrom p (sumM l l') = true := by
  induction l, l' using sumM.induct with
  | case1 => intro p _ _; rw [sumM]; rfl
  | case2 m r ih =>
    intro p h h'
    obtain ⟨h1, h2, h3, h4⟩ := (okFrom_cons _ _ _).1 h
    rw [sumM]
    exact okFrom_put h1 h3 (ih _ h4 rfl)
  | case3 m' r' ih =>
    intro p h h'
    obtain ⟨h1, h2, h3, h4⟩ := (okFrom_cons _ _ _).1 h'
    rw [sumM]
    exact okFrom_put h1 h3 (ih _ rfl h4)
  | case4 m r m' r' hc ih =>
    intro p h h'
    obtain ⟨h1, h2, h3, h4⟩ := (okFrom_cons _ _ _).1 h
    obtain ⟨g1, g2, g3, g4⟩ := (okFrom_cons _ _ _).1 h'
    rw [sumM, if_pos hc]
    exact okFrom_put h1 h3 (ih _ h4 ((okFrom_cons _ _ _).2 ⟨g1, g2, hc, g4⟩))
  | case5 m r m' r' hc hd ih =>
    intro p h h'
    obtain ⟨h1, h2, h3, h4⟩ := (okFrom_cons _ _ _).1 h
    obtain ⟨g1, g2, g3, g4⟩ := (okFrom_cons _ _ _).1 h'
    rw [sumM, if_neg hc, if_pos hd]
    exact okFrom_put g1 g3 (ih _ ((okFrom_cons _ _ _).2 ⟨h1, h2, hd, h4⟩) g4)
  | case6 m r m' r' hc hd ih =>
    intro p h h'
    obtain ⟨h1, h2, h3, h4⟩ := (okFrom_cons _ _ _).1 h
    obtain ⟨g1, g2, g3, g4⟩ := (okFrom_cons _ _ _).1 h'
    have e := name_eq hc hd
    rw [← e] at g4
    rw [sumM, if_neg hc, if_neg hd]
    exact okFrom_put h1 h3 (ih _ h4 g4)
end Go.Proofs.YtpclbgaaoednnaaDoor

