/-
  Names of the program's side: append, slices.Sort, slices.Compact.
-/
import Derived.Test.YtpclbgaaoednnaaLinRw
import Derived.Test.YtpclbgaaoednnaaShelf
import Derived.Lib.OwnBridge
import Derived.Sort.OwnSorted
namespace Go.Proofs.Ytpclbgaaoednnaa
open Go.ChangeShapes Go.WideShapes Go.ChangeAt Go.RowKit
set_option linter.unusedVariables false

theorem bl_lt : ∀ (x y : List UInt8), Op.bytesLess x y = decide (x < y)
  | [], [] => by simp [Op.bytesLess]
  | _ :: _, [] => by simp [Op.bytesLess]
  | [], _ :: _ => by simp [Op.bytesLess]
  | a :: x, b :: y => by
    rw [Op.bytesLess, bl_lt x y]
    simp only [List.cons_lt_cons_iff]
    by_cases h1 : a < b <;> by_cases h2 : a = b <;> by_cases h3 : x < y <;> simp [h1, h2, h3]
theorem le_bl (x y : List UInt8) : decide (x ≤ y) = !Op.bytesLess y x := by
  rw [bl_lt]
  by_cases h : y < x
  · have : ¬ x ≤ y := fun g => g h
    simp [h, this]
  · have : x ≤ y := h
    simp [h, this]
theorem sorted_bl (zs : List (List UInt8)) : (zs.mergeSort fun x y => decide (x ≤ y)).Pairwise fun x y => Op.bytesLess y x = false := by
  have h := List.pairwise_mergeSort (le := fun x y : List UInt8 => decide (x ≤ y)) (fun a b c h1 h2 => by
    rw [le_bl] at *
    cases hx : Op.bytesLess c a
    · rfl
    · have h1' : Op.bytesLess b a = false := by simpa using h1
      have h2' : Op.bytesLess c b = false := by simpa using h2
      cases hy : Op.bytesLess a b
      · have e := bl_total a b hy h1'
        subst e
        rw [hx] at h2'; cases h2'
      · have := bl_trans _ _ _ hx hy
        rw [this] at h2'; cases h2') (fun a b => by
    rw [le_bl, le_bl]
    cases hx : Op.bytesLess b a
    · rfl
    · rw [bl_asymm _ _ hx]; rfl) zs
  refine h.imp fun {a b} hab => ?_
  rw [le_bl] at hab
  simpa using hab

theorem comp_step (zs : List (List UInt8)) (hs : zs.Pairwise fun x y => Op.bytesLess y x = false) : ∀ m, m ≤ zs.length →
    (Lib.compactUpTo zs.toArray m).Pairwise (fun x y => Op.bytesLess x y = true) ∧ (∀ t ∈ Lib.compactUpTo zs.toArray m, ∃ j, j < m ∧ zs[j]? = some t) ∧ (∀ j t, j < m → zs[j]? = some t → t ∈ Lib.compactUpTo zs.toArray m) ∧ (∀ t ∈ Lib.compactUpTo zs.toArray m, ∀ u, zs[m - 1]? = some u → Op.bytesLess u t = false)
  | 0, _ => by
    have : Lib.compactUpTo zs.toArray 0 = [] := by simp [Lib.compactUpTo]
    rw [this]
    exact ⟨List.Pairwise.nil, (fun t ht => absurd ht (by simp)), (fun j t hj => absurd hj (by omega)), (fun t ht => absurd ht (by simp))⟩
  | m + 1, hm => by
    obtain ⟨h1, h2, h3, h4⟩ := comp_step zs hs m (by omega)
    have hml : m < zs.length := by omega
    have hmm : zs[m]? = some zs[m] := List.getElem?_eq_getElem hml
    have e0 : zs.toArray[m]! = zs[m] := by simp [getElem!_pos, hml]
    have hpw := List.pairwise_iff_getElem.1 hs
    rw [Lib.compactUpTo_succ, e0]
    by_cases hk : Lib.keeps zs.toArray m = true
    · rw [if_pos hk]
      have key : ∀ t ∈ Lib.compactUpTo zs.toArray m, Op.bytesLess t zs[m] = true := by
        intro t ht
        obtain ⟨j, hj, hjt⟩ := h2 t ht
        have hj0 : 0 < m := by omega
        have hpl : m - 1 < zs.length := by omega
        have ep : zs[m - 1]? = some zs[m - 1] := List.getElem?_eq_getElem hpl
        have hle := h4 t ht _ ep
        have hne : zs[m] ≠ zs[m - 1] := by
          unfold Lib.keeps at hk
          have hh := of_decide_eq_true hk
          rcases hh with hh | hh
          · omega
          · have e1 : zs.toArray[m - 1]! = zs[m - 1] := by simp [getElem!_pos, hpl]
            rw [e0, e1] at hh; exact hh
        have hlt : Op.bytesLess zs[m - 1] zs[m] = true := by
          have h5 := hpw (m - 1) m hpl hml (by omega)
          cases hx : Op.bytesLess zs[m - 1] zs[m]
          · exact absurd (bl_total _ _ h5 hx) hne
          · rfl
        cases hy : Op.bytesLess t zs[m - 1]
        · have := bl_total _ _ hy hle
          rw [this]; exact hlt
        · exact bl_trans _ _ _ hy hlt
      refine ⟨?_, ?_, ?_, ?_⟩
      · rw [List.pairwise_append]
        exact ⟨h1, List.pairwise_singleton _ _, fun a ha b hb => by rw [List.mem_singleton.1 hb]; exact key a ha⟩
      · intro t ht
        rcases List.mem_append.1 ht with ht | ht
        · obtain ⟨j, hj, hjt⟩ := h2 t ht
          exact ⟨j, by omega, hjt⟩
        · rw [List.mem_singleton.1 ht]; exact ⟨m, by omega, hmm⟩
      · intro j t hj hjt
        by_cases e : j = m
        · subst e; rw [hmm] at hjt; cases hjt; simp
        · exact List.mem_append.2 (Or.inl (h3 j t (by omega) hjt))
      · intro t ht u hu
        have eu : zs[m]? = some u := hu
        rw [hmm] at eu; cases eu
        rcases List.mem_append.1 ht with ht | ht
        · exact bl_asymm _ _ (key t ht)
        · rw [List.mem_singleton.1 ht, bl_irrefl]
    · rw [if_neg hk, List.append_nil]
      have hm0 : 0 < m := by
        cases m with
        | zero => exact absurd (by simp [Lib.keeps]) hk
        | succ k => omega
      have hpl : m - 1 < zs.length := by omega
      have ep : zs[m - 1]? = some zs[m - 1] := List.getElem?_eq_getElem hpl
      have heq : zs[m] = zs[m - 1] := by
        have e1 : zs.toArray[m - 1]! = zs[m - 1] := by simp [getElem!_pos, hpl]
        unfold Lib.keeps at hk
        rw [e0, e1] at hk
        by_cases h : zs[m] = zs[m - 1]
        · exact h
        · exact absurd (by simp [h]) hk
      refine ⟨h1, fun t ht => ?_, fun j t hj hjt => ?_, fun t ht u hu => ?_⟩
      · obtain ⟨j, hj, hjt⟩ := h2 t ht
        exact ⟨j, by omega, hjt⟩
      · by_cases e : j = m
        · subst e
          rw [hmm] at hjt; cases hjt
          exact h3 (j - 1) _ (by omega) (by rw [ep, heq])
        · exact h3 j t (by omega) hjt
      · have eu : zs[m]? = some u := hu
        rw [hmm] at eu; cases eu
        exact h4 t ht _ (by rw [ep, heq])
theorem comp_facts (zs : List (List UInt8)) (hs : zs.Pairwise fun x y => Op.bytesLess y x = false) : (Lib.compact zs).Pairwise (fun x y => Op.bytesLess x y = true) ∧ ∀ t, t ∈ Lib.compact zs ↔ t ∈ zs := by
  obtain ⟨h1, h2, h3, _⟩ := comp_step zs hs zs.length (Nat.le_refl _)
  refine ⟨h1, fun t => ⟨fun ht => ?_, fun ht => ?_⟩⟩
  · obtain ⟨j, _, hj⟩ := h2 t ht
    exact List.mem_of_getElem? hj
  · obtain ⟨j, hj, e⟩ := List.getElem_of_mem ht
    exact h3 j t hj (by rw [List.getElem?_eq_getElem hj, e])

def mkS (l : List UInt8) : ByteArray := ⟨l.toArray⟩
theorem mkS_toList (l : List UInt8) : (mkS l).toList = l := ByteArray.toList_mk _
theorem mkS_data (s : ByteArray) : mkS s.data.toList = s := Lib.mk_data s
theorem asc_pw : ∀ (l : List ByteArray), l.Pairwise (fun x y => Op.bytesLess x.toList y.toList = true) → ∀ p, (∀ s ∈ l, prevOk p s.toList = true) → ascN p l = true
  | [], _, _, _ => rfl
  | x :: r, h, p, g => by
    rw [List.pairwise_cons] at h
    exact (asc_cons _ _ _).2 ⟨g x (by simp), asc_pw r h.2 (some x.toList) fun s hs => h.1 s hs⟩
def sortN (all : List ByteArray) : List ByteArray := (Lib.compact ((all.map (·.data.toList)).mergeSort fun x y => decide (x ≤ y))).map mkS
theorem sortN_asc (all : List ByteArray) : ascN none (sortN all) = true := by
  obtain ⟨h1, _⟩ := comp_facts _ (sorted_bl (all.map (·.data.toList)))
  refine asc_pw _ ?_ none fun s _ => rfl
  unfold sortN
  rw [List.pairwise_map]
  exact h1.imp fun {a b} hab => by rw [mkS_toList, mkS_toList]; exact hab
theorem mem_sortN (all : List ByteArray) (t : ByteArray) : t ∈ sortN all ↔ t ∈ all := by
  obtain ⟨_, h2⟩ := comp_facts _ (sorted_bl (all.map (·.data.toList)))
  unfold sortN
  rw [List.mem_map]
  constructor
  · rintro ⟨l, hl, rfl⟩
    rw [h2, List.mem_mergeSort, List.mem_map] at hl
    obtain ⟨s, hs, rfl⟩ := hl
    rw [mkS_data]; exact hs
  · intro ht
    refine ⟨t.data.toList, ?_, mkS_data t⟩
    rw [h2, List.mem_mergeSort]
    exact List.mem_map.2 ⟨t, ht, rfl⟩
def allN (ls : List (List Mono)) : List ByteArray := ls.flatMap fun l => l.map (·.1)
theorem sortN_names (ls : List (List Mono)) : sortN (allN ls) = namesF ls := by
  refine asc_unique _ _ none none (sortN_asc _) (foldName_asc _ _ rfl) fun t => ?_
  rw [mem_sortN]
  unfold namesF allN
  rw [mem_foldName, List.mem_flatMap]
  simp
end Go.Proofs.Ytpclbgaaoednnaa
