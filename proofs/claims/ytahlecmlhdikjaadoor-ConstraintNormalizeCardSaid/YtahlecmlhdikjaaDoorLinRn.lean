/-
  The reference's insert: a name into an ascending list of the call's own.
-/
import Derived.Test.YtahlecmlhdikjaaDoorLinRp
import Derived.Test.YtahlecmlhdikjaaDoorGc
namespace Go.Proofs.YtahlecmlhdikjaaDoor
open Go.ChangeShapes Go.WideShapes Go.ChangeAt Go.RowKit
set_option linter.unusedVariables false

theorem str_info : (Tryd.prog.info? 9).map (fun i => (i.zero, i.size, i.bytes)) = some (some (.string ByteArray.empty), 1, 16) := by kernel_rfl
def strCells (l : List ByteArray) : List Value := l.map .string
theorem strCells_len (l : List ByteArray) : (strCells l).length = l.length := by simp [strCells]
theorem strCells_get {l : List ByteArray} {k : Nat} (hk : k < l.length) : (strCells l)[k]? = some (.string (l.getD k ⟨#[]⟩)) := by
  unfold strCells
  rw [List.getElem?_map, List.getD_eq_getElem?_getD, List.getElem?_eq_getElem hk]; rfl
theorem has_mem (s : ByteArray) : ∀ l : List ByteArray, hasB l s.toList = true ↔ s ∈ l
  | [] => by simp [hasB]
  | x :: r => by
    have ih := has_mem s r
    unfold hasB at ih ⊢
    rw [List.any_cons, Bool.or_eq_true, ih, List.mem_cons]
    constructor
    · rintro (h | h)
      · exact Or.inl (beq_toList.1 h).symm
      · exact Or.inr h
    · rintro (h | h)
      · exact Or.inl (beq_toList.2 h.symm)
      · exact Or.inr h
theorem ins_has (s : ByteArray) : ∀ (l : List ByteArray) (p : Option (List UInt8)), ascN p l = true → s ∈ l → insS s l = l
  | [], _, _, h => by cases h
  | x :: r, p, h, g => by
    obtain ⟨h1, h2⟩ := (asc_cons _ _ _).1 h
    unfold insS
    split
    · rfl
    · rename_i hx
      have hr : s ∈ r := by
        rcases List.mem_cons.1 g with e | e
        · exact absurd (beq_toList.2 e.symm) hx
        · exact e
      have := asc_mem r h2 s hr
      rw [if_neg (by rw [bl_asymm _ _ this]; simp), ins_has s r _ h2 hr]
theorem ins_at (s : ByteArray) : ∀ (k : Nat) (l : List ByteArray) (p : Option (List UInt8)), ascN p l = true → ¬ s ∈ l → k ≤ l.length → (∀ t ∈ l.drop k, Op.bytesLess s.toList t.toList = true) → (∀ j, k = j + 1 → Op.bytesLess s.toList (l.getD j ⟨#[]⟩).toList = false) → insS s l = l.take k ++ s :: l.drop k
  | 0, [], _, _, _, _, _, _ => rfl
  | 0, x :: r, p, h, hs, _, hd, _ => by
    have hx : Op.bytesLess s.toList x.toList = true := hd x (by simp)
    unfold insS
    rw [if_neg (fun e => hs (by rw [beq_toList.1 e]; simp)), if_pos hx]; rfl
  | k + 1, [], _, _, _, hk, _, _ => by simp at hk
  | k + 1, x :: r, p, h, hs, hk, hd, hl => by
    obtain ⟨h1, h2⟩ := (asc_cons _ _ _).1 h
    have hsx : Op.bytesLess s.toList x.toList = false := by
      have h0 := hl k rfl
      cases hb : Op.bytesLess s.toList x.toList
      · rfl
      · cases k with
        | zero => rw [← hb]; exact h0
        | succ j =>
          have hj : j < r.length := by simp at hk; omega
          have e1 : (x :: r).getD (j + 1) ⟨#[]⟩ = r.getD j ⟨#[]⟩ := rfl
          rw [e1] at h0
          have hm : r.getD j ⟨#[]⟩ ∈ r := by
            rw [List.getD_eq_getElem?_getD, List.getElem?_eq_getElem hj]; exact List.getElem_mem hj
          have := bl_trans _ _ _ hb (asc_mem r h2 _ hm)
          rw [this] at h0; cases h0
    unfold insS
    rw [if_neg (fun e => hs (by rw [beq_toList.1 e]; simp)), if_neg (by rw [hsx]; simp)]
    have ih := ins_at s k r _ h2 (fun e => hs (by simp [e])) (by simp at hk; omega) (fun t ht => hd t (by simpa using ht)) (fun j hj => by
      subst hj
      exact hl (j + 1) rfl)
    rw [ih]; rfl

theorem str_sl (w : World) (s : ByteArray) (t : TypeId) : SlAt (w.alloc (.cells #[.string s] t)) (.slice (some ⟨w.heap.size, 0, none⟩) 1 1) 1 1 (strF [s]) :=
  SlAt.new w t _ 1 1 _ (by decide) (fun i j hi hj => by
    obtain rfl : i = 0 := by omega
    obtain rfl : j = 0 := by omega
    rfl)
theorem str_one (s : ByteArray) : ∀ i j, i < 1 → j < 1 → (strF [s] i j).oneCell' = true := fun i j _ _ => rfl
theorem str_flat (s : ByteArray) : flat (strF [s]) 1 1 = [.string s] := rfl

/-- The list with s at place k. -/
def atK (l : List ByteArray) (s : ByteArray) (k : Nat) : List ByteArray := l.take k ++ s :: l.drop k
theorem atK_len (l : List ByteArray) (s : ByteArray) (k : Nat) (hk : k ≤ l.length) : (atK l s k).length = l.length + 1 := by
  unfold atK; simp; omega
theorem atK_here (l : List ByteArray) (s : ByteArray) (k : Nat) (hk : k ≤ l.length) : (strCells (atK l s k))[k]? = some (.string s) := by
  unfold strCells atK
  rw [List.getElem?_map, List.getElem?_append_right (by simp; omega)]
  simp [Nat.min_eq_left hk]
theorem atK_before (l : List ByteArray) (s : ByteArray) (k j : Nat) (hk : k ≤ l.length) (hj : j < k) : (strCells (atK l s k))[j]? = some (.string (l.getD j ⟨#[]⟩)) := by
  unfold strCells atK
  rw [List.getElem?_map, List.getElem?_append_left (by simp; omega), List.getElem?_take_of_lt hj, List.getD_eq_getElem?_getD, List.getElem?_eq_getElem (by omega)]; rfl
theorem atK_swap (l : List ByteArray) (s : ByteArray) (k : Nat) (hk : k < l.length) : ((strCells (atK l s (k + 1))).set (k + 1) (.string (l.getD k ⟨#[]⟩))).set k (.string s) = strCells (atK l s k) := by
  refine List.ext_getElem? fun i => ?_
  have hlen : (strCells (atK l s (k + 1))).length = l.length + 1 := by rw [strCells_len, atK_len _ _ _ (by omega)]
  have hd : (l.getD k ⟨#[]⟩) = l[k] := by rw [List.getD_eq_getElem?_getD, List.getElem?_eq_getElem hk]; rfl
  rw [List.getElem?_set, List.getElem?_set, List.length_set, hlen]
  unfold strCells atK
  by_cases h1 : k = i
  · subst h1
    rw [if_pos rfl, if_pos (by omega), List.getElem?_map, List.getElem?_append_right (by simp; omega)]
    simp [Nat.min_eq_left (by omega : k ≤ l.length)]
  · rw [if_neg h1]
    by_cases h2 : k + 1 = i
    · subst h2
      rw [if_pos rfl, if_pos (by omega), List.getElem?_map, List.getElem?_append_right (by simp; omega), hd]
      simp only [List.length_take, Nat.min_eq_left (by omega : k ≤ l.length), Nat.add_sub_cancel_left]
      rw [List.getElem?_cons_succ, List.getElem?_drop]
      simp [List.getElem?_eq_getElem hk]
    · rw [if_neg h2, List.getElem?_map, List.getElem?_map]
      congr 1
      rcases Nat.lt_or_ge i k with h3 | h3
      · rw [List.getElem?_append_left (by simp; omega), List.getElem?_append_left (by simp; omega), List.getElem?_take_of_lt (by omega), List.getElem?_take_of_lt h3]
      · rw [List.getElem?_append_right (by simp; omega), List.getElem?_append_right (by simp; omega)]
        simp only [List.length_take, Nat.min_eq_left (by omega : k ≤ l.length), Nat.min_eq_left (by omega : k + 1 ≤ l.length)]
        obtain ⟨m, hm⟩ : ∃ m, i = k + 2 + m := ⟨i - (k + 2), by omega⟩
        subst hm
        rw [show k + 2 + m - (k + 1) = m + 1 by omega, show k + 2 + m - k = (m + 1) + 1 by omega, List.getElem?_cons_succ, List.getElem?_cons_succ, List.getElem?_drop, List.getElem?_drop]
        congr 1; omega

/-- A row of strings of the call's own. -/
def NamesOwn (w : World) (base : Nat) (v : Value) (l : List ByteArray) : Prop := w.ownsRow base 9 1 v l.length (strCells l)
def InsPost (base : Nat) (l : List ByteArray) (w : World) (e : Ending) (w' : World) : Prop := ∃ v, e = .returned v ∧ NamesOwn w' base v l ∧ Below base w w'
end Go.Proofs.YtahlecmlhdikjaaDoor
