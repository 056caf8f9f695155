/-
  Levels: plain.
-/
import Derived.Test.YtpccaifhcmcegaaDgX
namespace Go.Proofs.Ytpccaifhcmcegaa
set_option linter.unusedSimpArgs false
open Go.ChangeShapes Go.WideShapes Go.ChangeAt Go.RowKit
set_option linter.unusedVariables false
set_option maxRecDepth 100000

abbrev LvL := List (ByteArray × Nat)
def levS (R : List ByteArray) (n : Nat) (x : ByteArray × Nat) : Nat := if has R x.1 = true then max n (x.2 + 1) else n
/-- The level of a definition that reads R, behind the levels of the elder ones. -/
def levA (acc : LvL) (R : List ByteArray) : Nat := acc.foldl (levS R) 0
def levB (acc : LvL) (d : Df) : LvL := acc ++ [(d.nm, levA acc (readsF d.body))]
/-- Each definition's name and level. -/
def levP (l : List Df) : LvL := l.foldl levB []
theorem levP_take {l : List Df} {i n : Nat} (hn : l.length = n) (hi : i < n) : levP (l.take (i + 1)) = levP (l.take i) ++ [((l[i]'(by omega)).nm, levA (levP (l.take i)) (readsF (l[i]'(by omega)).body))] := by
  subst hn
  unfold levP
  rw [List.take_succ_eq_append_getElem hi, List.foldl_append]; rfl
theorem levP_snoc (l : List Df) (d : Df) : levP (l ++ [d]) = levP l ++ [(d.nm, levA (levP l) (readsF d.body))] := by
  unfold levP; rw [List.foldl_append]; rfl
theorem df_snoc {P : List Df → Prop} (h0 : P []) (h1 : ∀ l d, P l → P (l ++ [d])) : ∀ l, P l := by
  intro l
  have key : ∀ n (l : List Df), l.length = n → P l := fun n => by
    induction n with
    | zero => intro l h; rw [List.eq_nil_of_length_eq_zero h]; exact h0
    | succ n ih =>
      intro l h
      have hne : l ≠ [] := by intro e; subst e; cases h
      have e := List.dropLast_concat_getLast hne
      rw [← e]
      exact h1 _ _ (ih _ (by rw [List.length_dropLast]; omega))
  exact key _ _ rfl
theorem levP_len : ∀ l : List Df, (levP l).length = l.length := df_snoc rfl fun l d h => by rw [levP_snoc, List.length_append, List.length_append, h]; rfl
theorem levP_names : ∀ l : List Df, (levP l).map (·.1) = l.map (·.nm) := df_snoc rfl fun l d h => by rw [levP_snoc, List.map_append, List.map_append, h]; rfl
theorem levP_pre (l m : List Df) : ∃ t, levP (l ++ m) = levP l ++ t := by
  revert m
  refine df_snoc (P := fun m => ∃ t, levP (l ++ m) = levP l ++ t) ⟨[], by simp⟩ fun m d ⟨t, ht⟩ => ?_
  exact ⟨t ++ [_], by rw [← List.append_assoc, levP_snoc, ht, List.append_assoc]⟩
theorem levP_take_eq (l : List Df) (i : Nat) : (levP l).take i = levP (l.take i) := by
  obtain ⟨t, ht⟩ := levP_pre (l.take i) (l.drop i)
  rw [List.take_append_drop] at ht
  by_cases hi : i ≤ l.length
  · rw [ht, List.take_append_of_le_length (by rw [levP_len, List.length_take]; omega), List.take_of_length_le (by rw [levP_len, List.length_take]; omega)]
  · rw [List.take_of_length_le (by rw [levP_len]; omega), List.take_of_length_le (by omega)]
theorem levS_take {acc : LvL} {R : List ByteArray} {i n : Nat} (hn : acc.length = n) (hi : i < n) : (acc.take (i + 1)).foldl (levS R) 0 = levS R ((acc.take i).foldl (levS R) 0) (acc[i]'(by omega)) := by
  subst hn
  rw [List.take_succ_eq_append_getElem hi, List.foldl_append]; rfl
def mxS (m : Nat) (x : ByteArray × Nat) : Nat := max m (x.2 + 1)
/-- How many levels there are. -/
def mxA (acc : LvL) : Nat := acc.foldl mxS 0
theorem foldl_mxS_ge : ∀ (acc : LvL) (m : Nat), m ≤ acc.foldl mxS m
  | [], m => Nat.le_refl _
  | x :: r, m => by
    rw [List.foldl_cons]
    exact Nat.le_trans (by unfold mxS; omega) (foldl_mxS_ge r _)
theorem mxA_mem : ∀ (acc : LvL) (m : Nat) (x : ByteArray × Nat), x ∈ acc → x.2 + 1 ≤ acc.foldl mxS m
  | [], _, _, h => by cases h
  | y :: r, m, x, h => by
    rw [List.foldl_cons]
    rcases List.mem_cons.1 h with rfl | h
    · exact Nat.le_trans (by unfold mxS; omega) (foldl_mxS_ge r _)
    · exact mxA_mem r _ x h
theorem levS_le (R : List ByteArray) (b : Nat) : ∀ (acc : LvL) (n : Nat), n ≤ b → (∀ x ∈ acc, x.2 + 1 ≤ b) → acc.foldl (levS R) n ≤ b
  | [], n, h, _ => h
  | y :: r, n, h, hx => by
    rw [List.foldl_cons]
    refine levS_le R b r _ ?_ (fun x hx' => hx x (List.mem_cons_of_mem _ hx'))
    have := hx y List.mem_cons_self
    unfold levS; split <;> omega
theorem levA_le (acc : LvL) (R : List ByteArray) : levA acc R ≤ mxA acc := levS_le R _ acc 0 (Nat.zero_le _) fun x hx => mxA_mem acc 0 x hx
theorem mxA_snoc (acc : LvL) (x : ByteArray × Nat) : mxA (acc ++ [x]) = max (mxA acc) (x.2 + 1) := by unfold mxA; rw [List.foldl_append]; rfl
theorem lev_all : ∀ l : List Df, ∀ j, j < mxA (levP l) → ∃ x ∈ levP l, x.2 = j :=
  df_snoc (fun j h => absurd h (Nat.not_lt_zero _)) fun l d h j hj => by
    rw [levP_snoc, mxA_snoc] at hj
    rw [levP_snoc]
    have h1 := levA_le (levP l) (readsF d.body)
    by_cases hjl : j < mxA (levP l)
    · obtain ⟨x, hx, e⟩ := h j hjl
      exact ⟨x, List.mem_append_left _ hx, e⟩
    · refine ⟨_, List.mem_append_right _ (List.mem_singleton.2 rfl), ?_⟩
      dsimp only at hj ⊢
      omega
theorem mxA_len : ∀ l : List Df, mxA (levP l) ≤ l.length := df_snoc (Nat.le_refl _) fun l d h => by
  rw [levP_snoc, mxA_snoc, List.length_append]
  have h1 := levA_le (levP l) (readsF d.body)
  simp only [List.length_cons, List.length_nil]
  omega
def lvB (n : Nat) (x : ByteArray × Nat) : Bool := decide (x.2 = n)
/-- The names of a level. -/
def rowP (acc : LvL) (n : Nat) : List ByteArray := (acc.filter (lvB n)).map (·.1)
theorem rowP_take {acc : LvL} {k i n : Nat} (hn : acc.length = n) (hi : i < n) : rowP (acc.take (i + 1)) k = if (acc[i]'(by omega)).2 = k then rowP (acc.take i) k ++ [(acc[i]'(by omega)).1] else rowP (acc.take i) k := by
  subst hn
  unfold rowP
  rw [List.take_succ_eq_append_getElem hi, List.filter_append, List.map_append]
  split
  · rename_i h; rw [List.filter_cons_of_pos (by unfold lvB; exact decide_eq_true h)]; rfl
  · rename_i h; rw [List.filter_cons_of_neg (by unfold lvB; simpa using h)]; simp
theorem rowP_len (acc : LvL) (n : Nat) : (rowP acc n).length ≤ acc.length := by unfold rowP; rw [List.length_map]; exact List.length_filter_le _ _
theorem rowP_ne (l : List Df) (j : Nat) (hj : j < mxA (levP l)) : rowP (levP l) j ≠ [] := by
  obtain ⟨x, hx, e⟩ := lev_all l j hj
  intro h
  have : x.1 ∈ rowP (levP l) j := List.mem_map.2 ⟨x, List.mem_filter.2 ⟨hx, decide_eq_true e⟩, rfl⟩
  rw [h] at this
  cases this
theorem rowP_mx (l : List Df) : rowP (levP l) (mxA (levP l)) = [] := by
  unfold rowP
  rw [List.filter_eq_nil_iff.2 fun x hx => ?_]; rfl
  have := mxA_mem (levP l) 0 x hx
  unfold lvB
  have e : mxA (levP l) = (levP l).foldl mxS 0 := rfl
  simp only [decide_eq_true_eq]
  omega
/-- What Levels returns. -/
def lvF (l : List Df) : List (List ByteArray) := (List.range (mxA (levP l))).map (rowP (levP l))
theorem lvF_of {l : List Df} {n : Nat} (h0 : rowP (levP l) n = []) (h1 : ∀ j, j < n → rowP (levP l) j ≠ []) : (List.range n).map (rowP (levP l)) = lvF l := by
  have e : n = mxA (levP l) := by
    rcases Nat.lt_trichotomy n (mxA (levP l)) with h | h | h
    · exact absurd h0 (rowP_ne l n h)
    · exact h
    · exact absurd (rowP_mx l) (h1 _ h)
  rw [e]; rfl
theorem range_snoc {α : Type} (f : Nat → α) (n : Nat) : (List.range (n + 1)).map f = (List.range n).map f ++ [f n] := by
  rw [List.range_succ, List.map_append]; rfl
end Go.Proofs.Ytpccaifhcmcegaa
