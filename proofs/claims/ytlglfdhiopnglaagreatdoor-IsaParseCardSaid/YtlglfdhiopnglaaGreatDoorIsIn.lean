/-
  The reference 47, reading: Instr. Printed by mkIsIn.py.
-/
import Derived.Test.YtlglfdhiopnglaaGreatDoorIsTy
namespace Go.Proofs.YtlglfdhiopnglaaGreatDoor
open Go.ChangeShapes Go.WideShapes Go.ChangeAt Go.RowKit
set_option linter.unusedVariables false
set_option linter.unusedSimpArgs false
set_option maxRecDepth 100000

/-- A list of texts that lies in no cell of block g. -/
def StrsB (g : Nat) (w : World) (v : Value) (l : List (List UInt8)) : Prop := StrsC w v l ∧ ∀ b, blk v = some b → b ≠ g
theorem StrsB.up {g : Nat} {w w' : World} {v : Value} {l : List (List UInt8)} (h : StrsB g w v l) (u : Up w w') : StrsB g w' v l := ⟨h.1.up u, h.2⟩
theorem StrsB.but {g : Nat} {w w' : World} {v : Value} {l : List (List UInt8)} (h : StrsB g w v l) (u : UpBut g w w') : StrsB g w' v l :=
  let ⟨⟨a, c, h1, h2, h3⟩, h4⟩ := h
  ⟨⟨a, c, h1, h2, SlAt.but h3 u h4⟩, h4⟩
theorem StrsB.set {g : Nat} {w : World} {v : Value} {l : List (List UInt8)} (h : StrsB g w v l) (j : Nat) (u : Value) : StrsB g (w.setCell ⟨g, j, none⟩ u) v l := h.but ((UpBut.refl g w).setCell j none u)
theorem StrsB.shape {g : Nat} {w : World} {v : Value} {l : List (List UInt8)} (h : StrsB g w v l) : ∃ a c, v = .slice a l.length c ∧ l.length ≤ c := let ⟨⟨a, c, h1, h2, _⟩, _⟩ := h; ⟨a, c, h1, h2⟩
theorem blk_sl (a : Option Addr) (n c : Nat) : blk (.slice a n c) = a.map (·.block) := by cases a <;> rfl
theorem StrsB.tail {g n c : Nat} {w : World} {a : Option Addr} {l : List (List UInt8)} (h : StrsB g w (.slice a n c) l) (h0 : 0 < n) : StrsB g w (.slice (if c = 1 then a else a.map (·.add 1)) (n - 1) (c - 1)) l.tail := by
  obtain ⟨⟨a', c', h1, h2, h3⟩, h4⟩ := h
  cases h1
  refine ⟨⟨_, _, by rw [List.length_tail], by rw [List.length_tail]; omega, ?_⟩, fun b hb => ?_⟩
  · have := StrsAt.tail h3 (by rw [List.length_map]) h0 h2
    rw [List.map_tail]
    exact this
  · rw [blk_sl] at hb h4
    split at hb
    · exact h4 b hb
    · refine h4 b ?_
      cases a with
      | none => cases hb
      | some x => obtain ⟨xb, xo, xs⟩ := x; cases xs <;> exact hb
theorem cutL_sz (c : UInt8) : ∀ s : List UInt8, (cutL c false s).length ≤ s.length + 1 ∧ ∀ t ∈ cutL c false s, t.length ≤ s.length := by
  intro s
  induction hn : s.length using Nat.strongRecOn generalizing s with
  | _ n ih =>
    subst hn
    by_cases h : c ∈ s
    · obtain ⟨a, b, rfl, ha⟩ : ∃ a b, s = a ++ c :: b ∧ c ∉ a := by
        rcases cut_spec c s with ⟨_, _, h3⟩ | ⟨_, h2, h3⟩
        · exact absurd h h3
        · exact ⟨_, _, h2, h3⟩
      rw [cutL_app c a b ha]
      have := ih b.length (by simp; omega) b rfl
      simp only [List.length_cons, List.length_append]
      refine ⟨by omega, fun t ht => ?_⟩
      rcases List.mem_cons.1 ht with rfl | ht
      · omega
      · have := this.2 t ht; omega
    · rw [cutL_word c s h]
      simp
theorem oneF_len (k : Int) (l : List (List UInt8)) : (oneF k l).2.1.length ≤ l.length ∧ ∀ t ∈ (oneF k l).2.1, t ∈ l := by
  unfold oneF
  split
  · exact ⟨Nat.le_refl _, fun t h => h⟩
  · cases l with
    | nil => exact ⟨Nat.le_refl _, fun t h => h⟩
    | cons w r => exact ⟨by simp, fun t h => List.mem_cons_of_mem _ h⟩
theorem rgF_R (k : Int) (s : List UInt8) : R64 (rgF k s).1 := by
  have hp : ∀ s, R64 (intF s).1 := fun s => by
    unfold intF
    split
    · exact (⟨by decide, by decide⟩ : R64 0)
    · rename_i h
      simp only [not_or, ne_eq, Decidable.not_not] at h
      obtain ⟨hv, _⟩ := rparF_ok h.1
      simp only [validF, decide_eq_true_eq] at hv
      constructor <;> dsimp only <;> omega
  unfold rgF
  split
  · split
    · exact (⟨by decide, by decide⟩ : R64 0)
    · exact hp _
  · exact hp _
theorem oneF_R (k : Int) (l : List (List UInt8)) : R64 (oneF k l).1 := by
  unfold oneF
  split
  · exact (⟨by decide, by decide⟩ : R64 0)
  · cases l with
    | nil => exact (⟨by decide, by decide⟩ : R64 0)
    | cons w r => exact rgF_R k w
theorem intF_R (s : List UInt8) : R64 (intF s).1 := by
  have := rgF_R 0 s
  unfold rgF at this
  rwa [if_neg (by decide)] at this
theorem rparF_R {s : List UInt8} (h : (rparF s).2 = 0) : R64 (rparF s).1.1 ∧ R64 (rparF s).1.2 := by
  obtain ⟨hv, _⟩ := rparF_ok h
  simp only [validF, decide_eq_true_eq] at hv
  constructor <;> constructor <;> omega
/-- The opcode found so far. -/
def OpAt (w0 : List UInt8) (k : Nat) (o : Int) : Prop := (o = -1 ∧ ∀ j, j < k → (mnS j).data.toList ≠ w0) ∨ (∃ j, j < k ∧ (mnS j).data.toList = w0 ∧ o = j)
theorem OpAt.hit {w0 : List UInt8} {k : Nat} (h : (mnS k).data.toList = w0) : OpAt w0 (k + 1) k := .inr ⟨k, by omega, h, rfl⟩
theorem OpAt.miss {w0 : List UInt8} {k : Nat} {o : Int} (h : OpAt w0 k o) (hm : (mnS k).data.toList ≠ w0) : OpAt w0 (k + 1) o := by
  rcases h with ⟨h1, h2⟩ | ⟨j, h1, h2, h3⟩
  · exact .inl ⟨h1, fun j hj => by by_cases e : j = k; exact e ▸ hm; exact h2 j (by omega)⟩
  · exact .inr ⟨j, by omega, h2, h3⟩
theorem fndL_none (w0 : List UInt8) : ∀ (m i : Nat), (∀ j, i ≤ j → j < i + m → (mnS j).data.toList ≠ w0) → fndL w0 m i = none
  | 0, i, _ => rfl
  | m + 1, i, h => by
    rw [fndL, if_neg (h i (Nat.le_refl _) (by omega))]
    exact fndL_none w0 m (i + 1) fun j h1 h2 => h j (by omega) (by omega)
theorem OpAt.fin {w0 : List UInt8} {o : Int} (h : OpAt w0 17 o) : (o = -1 ∧ fndL w0 17 0 = none) ∨ ∃ k : Nat, k < 17 ∧ o = k ∧ fndL w0 17 0 = some k := by
  rcases h with ⟨h1, h2⟩ | ⟨j, h1, h2, h3⟩
  · exact .inl ⟨h1, fndL_none w0 17 0 fun j _ hj => h2 j (by omega)⟩
  · exact .inr ⟨j, h1, h3, by rw [← h2]; exact fndL_some j h1⟩
theorem beq_bytes (a : ByteArray) (b : List UInt8) : (a.toList == (bst b).toList) = decide (a.data.toList = b) := by
  rw [bst_list, Lib.toList_data]
  by_cases h : a.data.toList = b
  · rw [h]; simp
  · simp [h]
theorem opsRow (x : World) (b : Nat) (h : x.heap[b]? = some (.cells #[.string { data := #[97, 100, 100] }, .string { data := #[115, 117, 98] }, .string { data := #[109, 117, 108] }, .string { data := #[100, 105, 118] }, .string { data := #[110, 101, 103] }, .string { data := #[109, 105, 110] }, .string { data := #[109, 97, 120] }] 9 (0, 0))) : StrsAt x (.slice (some ⟨b, 0, none⟩) 7 7) (opsnL.map bst) :=
  ⟨⟨some ⟨b, 0, none⟩, 7, rfl, fun e => (nomatch e), fun a ha hl => by
    cases ha
    refine ⟨rfl, (Array.getElem?_eq_some_iff.1 h).1, fun i j hi hj => ?_⟩
    obtain rfl : j = 0 := by omega
    have hi : i < 7 := hi
    rcases (by omega : i = 0 ∨ i = 1 ∨ i = 2 ∨ i = 3 ∨ i = 4 ∨ i = 5 ∨ i = 6) with rfl | rfl | rfl | rfl | rfl | rfl | rfl <;> exact cell_of_row _ _ _ _ _ _ h⟩, by decide⟩
theorem cmpRow (x : World) (b : Nat) (h : x.heap[b]? = some (.cells #[.string { data := #[108, 116] }, .string { data := #[108, 101] }, .string { data := #[101, 113] }] 9 (0, 0))) : StrsAt x (.slice (some ⟨b, 0, none⟩) 3 3) (cmpsL.map bst) :=
  ⟨⟨some ⟨b, 0, none⟩, 3, rfl, fun e => (nomatch e), fun a ha hl => by
    cases ha
    refine ⟨rfl, (Array.getElem?_eq_some_iff.1 h).1, fun i j hi hj => ?_⟩
    obtain rfl : j = 0 := by omega
    have hi : i < 3 := hi
    rcases (by omega : i = 0 ∨ i = 1 ∨ i = 2) with rfl | rfl | rfl <;> exact cell_of_row _ _ _ _ _ _ h⟩, by decide⟩
theorem inR_mk {op A b c n d k bi fr ro ov : Int} (h0 : R64 op) (h1 : R64 A) (h2 : R64 b) (h3 : R64 c) (h4 : R64 n) (h5 : R64 d) (h6 : R64 k) (h7 : R64 bi) (h8 : R64 fr) (h9 : R64 ro) (h10 : R64 ov) : InR (op, A, b, c, (n, d), k, bi, fr, ro, ov) := fun j => by
  match j with
  | 0 => exact h0
  | 1 => exact h1
  | 2 => exact h2
  | 3 => exact h3
  | 4 => exact h4
  | 5 => exact h5
  | 6 => exact h6
  | 7 => exact h7
  | 8 => exact h8
  | 9 => exact h9
  | q + 10 => exact h10
theorem ptyF_R (l : List (List UInt8)) : R64 (ptyF l).1.1 ∧ R64 (ptyF l).1.2.1 ∧ R64 (ptyF l).1.2.2.1 ∧ R64 (ptyF l).1.2.2.2.1 ∧ R64 (ptyF l).1.2.2.2.2 := by
  have z : R64 0 := ⟨by decide, by decide⟩
  have one : R64 1 := ⟨by decide, by decide⟩
  have two : R64 2 := ⟨by decide, by decide⟩
  have thr : R64 3 := ⟨by decide, by decide⟩
  have pl : ∀ L s, L.length ≤ 100 → R64 (plcF L s + 1) := fun L s h => by
    have := plcF_bd L s
    constructor <;> omega
  unfold ptyF
  split
  · exact ⟨one, z, z, z, z⟩
  · split
    · exact ⟨thr, z, z, z, z⟩
    · split
      · exact ⟨z, z, z, z, z⟩
      · exact ⟨two, intF_R _, intF_R _, pl _ _ (by decide), pl _ _ (by decide)⟩
theorem opsL_bd (s : List UInt8) : -1 ≤ plcF opsnL s ∧ plcF opsnL s ≤ 7 := plcF_bd opsnL s
theorem cmpL_bd (s : List UInt8) : -1 ≤ plcF cmpsL s ∧ plcF cmpsL s ≤ 3 := plcF_bd cmpsL s
theorem StrsB.tail' {g n c g0 o0 : Nat} {w : World} {l : List (List UInt8)} (h : StrsB g w (.slice (some ⟨g0, o0, none⟩) n c) l) (h0 : 0 < n) : StrsB g w (.slice (if c = 1 then some ⟨g0, o0, none⟩ else some ⟨g0, o0 + 1, none⟩) (n - 1) (c - 1)) l.tail := h.tail h0
end Go.Proofs.YtlglfdhiopnglaaGreatDoor
