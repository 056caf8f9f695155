/-
  apply: one theorem for each rule. Printed by mkPeP.py.
-/
import Derived.Test.YtlglfdhiopnglaaGreatDoorPeF
import Derived.Test.YtlglfdhiopnglaaGreatDoorGb
import Derived.Test.YtlglfdhiopnglaaGreatDoorGa
import Derived.Test.YtlglfdhiopnglaaGreatDoorGi
namespace Go.Proofs.YtlglfdhiopnglaaGreatDoor
open Go.ChangeShapes Go.WideShapes Go.ChangeAt Go.RowKit
set_option linter.unusedVariables false
set_option linter.unusedSimpArgs false
set_option maxRecDepth 100000

/-- The instruction at i gets another target. -/
def setA (l : List Ins) (i : Nat) (t : Int) : List Ins := l.set i ((l.getD i i0).1, t, (l.getD i i0).2.2)
theorem setA_len (l : List Ins) (i : Nat) (t : Int) : (setA l i t).length = l.length := List.length_set
theorem ins_set (l : List Ins) (i n : Nat) (hn : l.length = n) (hi : i < n) (t : Int) : (flat (insF l) n 11).set (i * 11 + 1) (.int .i64 t) = flat (insF (setA l i t)) n 11 := by
  subst hn
  refine List.ext_getElem? fun q => ?_
  rcases Nat.lt_or_ge q (l.length * 11) with hq | hq
  · have hd : q / 11 < l.length := by omega
    have hm : q % 11 < 11 := by omega
    have e : q = q / 11 * 11 + q % 11 := by omega
    rw [List.getElem?_set]
    by_cases he : i * 11 + 1 = q
    · subst he
      rw [if_pos rfl, if_pos (by rw [flat_length]; exact hq), flat_get _ _ _ _ _ hi (by omega)]
      unfold insF setA
      rw [List.getD_eq_getElem?_getD, List.getElem?_set, if_pos rfl, if_pos hi]
      rfl
    · rw [if_neg he]
      obtain ⟨a, ha⟩ : ∃ a, q / 11 = a := ⟨_, rfl⟩
      obtain ⟨j, hj⟩ : ∃ j, q % 11 = j := ⟨_, rfl⟩
      rw [ha, hj] at e
      rw [ha] at hd
      rw [hj] at hm
      rw [e, flat_get _ _ _ _ _ hd hm, flat_get _ _ _ _ _ hd hm]
      unfold insF setA
      congr 2
      rw [List.getD_eq_getElem?_getD, List.getD_eq_getElem?_getD, List.getElem?_set]
      by_cases hia : i = a
      · subst hia
        rw [if_pos rfl, if_pos hi]
        rw [List.getD_eq_getElem?_getD, List.getElem?_eq_getElem hi]
        rcases (by omega : j = 0 ∨ j = 2 ∨ j = 3 ∨ j = 4 ∨ j = 5 ∨ j = 6 ∨ j = 7 ∨ j = 8 ∨ j = 9 ∨ j = 10) with rfl | rfl | rfl | rfl | rfl | rfl | rfl | rfl | rfl | rfl <;> rfl
      · rw [if_neg hia]
  · rw [List.getElem?_eq_none (by rw [List.length_set, flat_length]; exact hq), List.getElem?_eq_none (by rw [flat_length]; exact hq)]
theorem setA_R {l : List Ins} {i : Nat} {t : Int} (h : ∀ x ∈ l, InR x) (ht : R64 t) (hi : i < l.length) : ∀ x ∈ setA l i t, InR x := fun x hx => by
  unfold setA at hx
  rcases List.mem_or_eq_of_mem_set hx with hx | rfl
  · exact h x hx
  · have hm : InR (l.getD i i0) := h _ (by rw [List.getD_eq_getElem?_getD, List.getElem?_eq_getElem hi]; exact List.getElem_mem hi)
    intro j
    match j with
    | 0 => exact hm 0
    | 1 => exact ht
    | 2 => exact hm 2
    | 3 => exact hm 3
    | 4 => exact hm 4
    | 5 => exact hm 5
    | 6 => exact hm 6
    | 7 => exact hm 7
    | 8 => exact hm 8
    | 9 => exact hm 9
    | j + 10 => exact hm (j + 10)
theorem finG_R {l : List Ins} {t : Int} (h : ∀ x ∈ l, InR x) (ht : R64 t) : ∀ (k : Nat) (a : Int), R64 a → R64 (finG l t k a)
  | 0, a, ha => by
    unfold finG
    split
    · exact ht
    · exact ha
  | k + 1, a, ha => by
    unfold finG
    split
    · exact ha
    · rename_i hc
      refine finG_R h ht k _ ?_
      have hlt : a.toNat < l.length := by omega
      have : InR (l.getD a.toNat i0) := h _ (by rw [List.getD_eq_getElem?_getD, List.getElem?_eq_getElem hlt]; exact List.getElem_mem hlt)
      exact this 1

end Go.Proofs.YtlglfdhiopnglaaGreatDoor

