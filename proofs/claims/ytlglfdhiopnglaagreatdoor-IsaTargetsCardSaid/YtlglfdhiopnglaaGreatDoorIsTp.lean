/-
  Sorted numbers without doubles: plain laws. What Targets gives before and behind Relocate.
-/
import Derived.Test.YtlglfdhiopnglaaGreatDoorIsTg
namespace Go.Proofs.YtlglfdhiopnglaaGreatDoor
open Go.ChangeShapes Go.WideShapes Go.ChangeAt Go.RowKit
set_option linter.unusedVariables false
set_option linter.unusedSimpArgs false
set_option maxRecDepth 100000

theorem icomp_step (zs : List Int) (hs : zs.Pairwise fun x y => x ≤ y) : ∀ m, m ≤ zs.length →
    (Lib.compactUpTo zs.toArray m).Pairwise (fun x y => x < y) ∧ (∀ t ∈ Lib.compactUpTo zs.toArray m, ∃ j, j < m ∧ zs[j]? = some t) ∧ (∀ j t, j < m → zs[j]? = some t → t ∈ Lib.compactUpTo zs.toArray m) ∧ (∀ t ∈ Lib.compactUpTo zs.toArray m, ∀ u, zs[m - 1]? = some u → t ≤ u)
  | 0, _ => by
    have : Lib.compactUpTo zs.toArray 0 = [] := by simp [Lib.compactUpTo]
    rw [this]
    exact ⟨List.Pairwise.nil, (fun t ht => absurd ht (by simp)), (fun j t hj => absurd hj (by omega)), (fun t ht => absurd ht (by simp))⟩
  | m + 1, hm => by
    obtain ⟨h1, h2, h3, h4⟩ := icomp_step zs hs m (by omega)
    have hml : m < zs.length := by omega
    have hmm : zs[m]? = some zs[m] := List.getElem?_eq_getElem hml
    have e0 : zs.toArray[m]! = zs[m] := by simp [getElem!_pos, hml]
    have hpw := List.pairwise_iff_getElem.1 hs
    rw [Lib.compactUpTo_succ, e0]
    by_cases hk : Lib.keeps zs.toArray m = true
    · rw [if_pos hk]
      have key : ∀ t ∈ Lib.compactUpTo zs.toArray m, t < zs[m] := by
        intro t ht
        obtain ⟨j, hj, hjt⟩ := h2 t ht
        have hj0 : 0 < m := by omega
        have hpl : m - 1 < zs.length := by omega
        have ep : zs[m - 1]? = some zs[m - 1] := List.getElem?_eq_getElem hpl
        have hle := h4 t ht _ ep
        have hne : zs[m] ≠ zs[m - 1] := by
          unfold Lib.keeps at hk
          have hh := of_decide_eq_true hk
          rcases hh with hh | hh
          · omega
          · have e1 : zs.toArray[m - 1]! = zs[m - 1] := by simp [getElem!_pos, hpl]
            rw [e0, e1] at hh; exact hh
        have h5 := hpw (m - 1) m hpl hml (by omega)
        omega
      refine ⟨?_, ?_, ?_, ?_⟩
      · rw [List.pairwise_append]
        exact ⟨h1, List.pairwise_singleton _ _, fun a ha b hb => by rw [List.mem_singleton.1 hb]; exact key a ha⟩
      · intro t ht
        rcases List.mem_append.1 ht with ht | ht
        · obtain ⟨j, hj, hjt⟩ := h2 t ht
          exact ⟨j, by omega, hjt⟩
        · rw [List.mem_singleton.1 ht]; exact ⟨m, by omega, hmm⟩
      · intro j t hj hjt
        by_cases e : j = m
        · subst e; rw [hmm] at hjt; cases hjt; simp
        · exact List.mem_append.2 (Or.inl (h3 j t (by omega) hjt))
      · intro t ht u hu
        have eu : zs[m]? = some u := hu
        rw [hmm] at eu; cases eu
        rcases List.mem_append.1 ht with ht | ht
        · have := key t ht; omega
        · rw [List.mem_singleton.1 ht]; exact Int.le_refl _
    · rw [if_neg hk, List.append_nil]
      have hm0 : 0 < m := by
        cases m with
        | zero => exact absurd (by simp [Lib.keeps]) hk
        | succ k => omega
      have hpl : m - 1 < zs.length := by omega
      have ep : zs[m - 1]? = some zs[m - 1] := List.getElem?_eq_getElem hpl
      have heq : zs[m] = zs[m - 1] := by
        have e1 : zs.toArray[m - 1]! = zs[m - 1] := by simp [getElem!_pos, hpl]
        unfold Lib.keeps at hk
        rw [e0, e1] at hk
        by_cases h : zs[m] = zs[m - 1]
        · exact h
        · exact absurd (by simp [h]) hk
      refine ⟨h1, fun t ht => ?_, fun j t hj hjt => ?_, fun t ht u hu => ?_⟩
      · obtain ⟨j, hj, hjt⟩ := h2 t ht
        exact ⟨j, by omega, hjt⟩
      · by_cases e : j = m
        · subst e
          rw [hmm] at hjt; cases hjt
          exact h3 (j - 1) _ (by omega) (by rw [ep, heq])
        · exact h3 j t (by omega) hjt
      · have eu : zs[m]? = some u := hu
        rw [hmm] at eu; cases eu
        exact h4 t ht _ (by rw [ep, heq])
theorem sortI_facts (l : List Int) : (sortI l).Pairwise (fun x y => x < y) ∧ ∀ t, t ∈ sortI l ↔ t ∈ l := by
  have hs : (l.mergeSort fun x y => decide (x ≤ y)).Pairwise fun x y => x ≤ y := by
    have h := List.pairwise_mergeSort (le := fun x y : Int => decide (x ≤ y)) (fun a b c h1 h2 => by
      simp only [decide_eq_true_eq] at *; omega) (fun a b => by
      simp only [Bool.or_eq_true, decide_eq_true_eq]; omega) l
    exact h.imp fun {a b} hab => by simpa using hab
  unfold sortI
  obtain ⟨ts, hts⟩ : ∃ ts, (l.mergeSort fun x y => decide (x ≤ y)) = ts := ⟨_, rfl⟩
  have hm : ∀ t, t ∈ ts ↔ t ∈ l := fun t => by rw [← hts, List.mem_mergeSort]
  rw [hts] at hs ⊢
  obtain ⟨h1, h2, h3, _⟩ := icomp_step ts hs ts.length (Nat.le_refl _)
  refine ⟨h1, fun t => ⟨fun ht => ?_, fun ht => ?_⟩⟩
  · obtain ⟨j, _, hj⟩ := h2 t ht
    exact (hm t).1 (List.mem_of_getElem? hj)
  · obtain ⟨j, hj, e⟩ := List.getElem_of_mem ((hm t).2 ht)
    exact h3 j t hj (by rw [List.getElem?_eq_getElem hj, e])
/-- Two strictly rising lists with the same members are equal. -/
theorem rising_eq : ∀ (a b : List Int), a.Pairwise (fun x y => x < y) → b.Pairwise (fun x y => x < y) → (∀ t, t ∈ a ↔ t ∈ b) → a = b
  | [], [], _, _, _ => rfl
  | [], y :: b, _, _, h => absurd ((h y).2 List.mem_cons_self) (by simp)
  | x :: a, [], _, _, h => absurd ((h x).1 List.mem_cons_self) (by simp)
  | x :: a, y :: b, ha, hb, h => by
    rw [List.pairwise_cons] at ha hb
    have hxy : x = y := by
      rcases List.mem_cons.1 ((h x).1 List.mem_cons_self) with e | hx
      · exact e
      · rcases List.mem_cons.1 ((h y).2 List.mem_cons_self) with e | hy
        · exact e.symm
        · have h1 := hb.1 x hx
          have h2 := ha.1 y hy
          omega
    subst hxy
    rw [rising_eq a b ha.2 hb.2 fun t => ?_]
    constructor
    · intro ht
      rcases List.mem_cons.1 ((h t).1 (List.mem_cons_of_mem _ ht)) with e | h'
      · have := ha.1 t ht; omega
      · exact h'
    · intro ht
      rcases List.mem_cons.1 ((h t).2 (List.mem_cons_of_mem _ ht)) with e | h'
      · have := hb.1 t ht; omega
      · exact h'
/-- A list without doubles whose members all lie in another is no longer than that. -/
theorem nodup_le : ∀ (a b : List Int), a.Pairwise (fun x y => x ≠ y) → (∀ t ∈ a, t ∈ b) → a.length ≤ b.length
  | [], b, _, _ => Nat.zero_le _
  | x :: a, b, ha, h => by
    rw [List.pairwise_cons] at ha
    have hx := h x List.mem_cons_self
    have := nodup_le a (b.erase x) ha.2 (fun t ht => (List.mem_erase_of_ne (ha.1 t ht).symm).2 (h t (List.mem_cons_of_mem _ ht)))
    rw [List.length_erase_of_mem hx] at this
    have hb : 0 < b.length := List.length_pos_of_mem hx
    rw [List.length_cons]; omega
theorem rising_ne {a : List Int} (h : a.Pairwise fun x y => x < y) : a.Pairwise fun x y => x ≠ y := h.imp fun {x y} hxy => by omega
/-- A map that tells the members of l apart leaves the number of different ones. -/
theorem sortI_map_len (f : Int → Int) (l : List Int) (hf : ∀ x ∈ l, ∀ y ∈ l, f x = f y → x = y) : (sortI (l.map f)).length = (sortI l).length := by
  obtain ⟨h1, h2⟩ := sortI_facts l
  obtain ⟨g1, g2⟩ := sortI_facts (l.map f)
  have hm : ((sortI l).map f).Pairwise fun x y => x ≠ y := by
    rw [List.pairwise_map]
    have := rising_ne h1
    rw [List.pairwise_iff_forall_sublist] at this ⊢
    intro a b hab e
    have hsub := hab.subset
    exact this hab (hf a ((h2 a).1 (hsub (by simp))) b ((h2 b).1 (hsub (by simp))) e)
  refine Nat.le_antisymm ?_ ?_
  · have := nodup_le (sortI (l.map f)) ((sortI l).map f) (rising_ne g1) (fun t ht => by
      obtain ⟨x, hx, rfl⟩ := List.mem_map.1 ((g2 t).1 ht)
      exact List.mem_map_of_mem ((h2 x).2 hx))
    simpa using this
  · have := nodup_le ((sortI l).map f) (sortI (l.map f)) hm (fun t ht => by
      obtain ⟨x, hx, rfl⟩ := List.mem_map.1 ht
      exact (g2 _).2 (List.mem_map_of_mem ((h2 x).1 hx)))
    simpa using this

/-! ### Relocate -/
theorem tgtL_rel (by' : Int) : ∀ l : List Ins, tgtL (l.map (relI by')) = (tgtL l).map fun a => IntKind.i64.wrap (a + by')
  | [] => rfl
  | x :: r => by
    have ih := tgtL_rel by' r
    rw [List.map_cons, tgtL_cons, tgtL_cons, ih, List.map_append]
    congr 1
    unfold relI
    cases h : jumpsB x.1 with
    | true => rw [if_pos rfl]; simp only [h]; rfl
    | false => simp [h]
theorem wrap_inj {a b c : Int} (ha : R64 a) (hb : R64 b) (h : IntKind.i64.wrap (a + c) = IntKind.i64.wrap (b + c)) : a = b := by
  rw [IntKind.wrap_i64, IntKind.wrap_i64] at h
  unfold R64 at ha hb
  omega
theorem tgtL_R {l : List Ins} (h : ∀ x ∈ l, InR x) : ∀ t ∈ tgtL l, R64 t := fun t ht => by
  unfold tgtL at ht
  obtain ⟨x, hx, rfl⟩ := List.mem_map.1 ht
  exact h x (List.mem_filter.1 hx).1 1
theorem targets_len {l : List Ins} (h : ∀ x ∈ l, InR x) (by' : Int) : (sortI (tgtL (l.map (relI by')))).length = (sortI (tgtL l)).length := by
  rw [tgtL_rel]
  exact sortI_map_len _ _ (fun x hx y hy e => wrap_inj (tgtL_R h x hx) (tgtL_R h y hy) e)
theorem relI_back {x : Ins} (h : InR x) (c : Int) : relI (-c) (relI c x) = x := by
  have h1 : R64 x.2.1 := h 1
  have e : IntKind.i64.wrap (IntKind.i64.wrap (x.2.1 + c) + -c) = x.2.1 := by
    rw [IntKind.wrap_i64, IntKind.wrap_i64]
    unfold R64 at h1
    omega
  obtain ⟨op, A, r⟩ := x
  cases hj : jumpsB op with
  | true =>
    have e1 : relI c (op, A, r) = (op, IntKind.i64.wrap (A + c), r) := by unfold relI; rw [if_pos hj]
    rw [e1]
    unfold relI
    rw [if_pos hj]
    exact congrArg (fun q => (op, q, r)) e
  | false =>
    have e1 : relI c (op, A, r) = (op, A, r) := by unfold relI; rw [if_neg (by rw [hj]; simp)]
    rw [e1]
    unfold relI; rw [if_neg (by rw [hj]; simp)]
theorem map_back {l : List Ins} (h : ∀ x ∈ l, InR x) (c : Int) : (l.map (relI c)).map (relI (-c)) = l := by
  induction l with
  | nil => rfl
  | cons x r ih =>
    rw [List.map_cons, List.map_cons, relI_back (h x List.mem_cons_self), ih (fun y hy => h y (List.mem_cons_of_mem _ hy))]
end Go.Proofs.YtlglfdhiopnglaaGreatDoor
