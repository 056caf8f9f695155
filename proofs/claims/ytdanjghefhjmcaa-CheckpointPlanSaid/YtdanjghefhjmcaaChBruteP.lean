/-
  The table of costs by trying all first states (chapter 28): plain laws, and a table in a block.
-/
import Derived.Test.YtdanjghefhjmcaaChPlanW
import Derived.Test.YtdanjghefhjmcaaChRec
namespace Go.Proofs.Ytdanjghefhjmcaa
open Go.ChangeShapes Go.WideShapes Go.ChangeAt Go.RowKit
set_option linter.unusedVariables false
set_option linter.unusedSimpArgs false

def tabC : Array Value := Array.replicate 4225 (.int .i64 0)
theorem tabC_size : tabC.size = 4225 := by simp [tabC]
theorem tabC_zero : (Try.prog.info? 68).map (fun i => (i.zero, i.size)) = some (some (.agg tabC), 4225) := by kernel_rfl
theorem tabC_get (i : Nat) (hi : i < 4225) : tabC[i]? = some (.int .i64 0) := by simp [tabC, hi]
attribute [irreducible] tabC

/-- Best and its first state behind the tries 1 to k. -/
def bfK (n s : Nat) : Nat → Nat × Nat
  | 0 => (n * (n - 1) / 2, 0)
  | k + 1 => if (bfK n s k).2 = 0 ∨ (k + 1) + costF (n - (k + 1)) (s - 1) + costF (k + 1) s < (bfK n s k).1 then ((k + 1) + costF (n - (k + 1)) (s - 1) + costF (k + 1) s, k + 1) else bfK n s k
def bfT (n s : Nat) : Nat → Nat × Nat
  | 0 => (n * (n - 1) / 2, 0)
  | k + 1 => (fun p : Nat × Nat => (fun c => if p.2 = 0 ∨ c < p.1 then (c, k + 1) else p) ((k + 1) + costT (n - (k + 1)) (s - 1) + costT (k + 1) s)) (bfT n s k)
theorem bf_eq (n s : Nat) (hn : n ≤ 64) (hs : s ≤ 64) : ∀ k, k + 1 ≤ n → bfK n s k = bfT n s k
  | 0, _ => rfl
  | k + 1, h => by rw [bfK, bfT, bf_eq n s hn hs k (by omega), costT_eq (n - (k + 1)) (s - 1) (by omega) (by omega), costT_eq (k + 1) s (by omega) hs]
set_option maxRecDepth 100000 in
theorem bfT_b : (all64 fun n => all64 fun s => decide (n < 2) || s == 0 || (bfT n s (n - 1)).1 == costT n s) = true := by decide +kernel
theorem bf_cost (n s : Nat) (hn : n ≤ 64) (hs : s ≤ 64) (h2 : 2 ≤ n) (h0 : 1 ≤ s) : (bfK n s (n - 1)).1 = costF n s := by
  have := all64_spec (all64_spec bfT_b n hn) s hs
  rw [costT_eq n s hn hs, bf_eq n s hn hs _ (by omega)]
  have h3 : (s == 0) = false := by simp; omega
  have h4 : decide (n < 2) = false := by simp; omega
  rw [h3, h4] at this
  simpa using this
theorem low_b : (all64 fun s => costF 0 s == 0 && costF 1 s == 0) = true := by decide +kernel
theorem low_zero (n s : Nat) (hs : s ≤ 64) (h : n < 2) : costF n s = 0 := by
  have := all64_spec low_b s hs
  simp only [Bool.and_eq_true, beq_iff_eq] at this
  rcases (by omega : n = 0 ∨ n = 1) with rfl | rfl
  · exact this.1
  · exact this.2
def firstF (n s : Nat) : Nat := if n < 2 ∨ s = 0 then 0 else (bfK n s (n - 1)).2

/-- A table in a block. -/
structure TabIs (w : World) (b : Nat) (f : Nat → Nat → Nat) : Prop where
  lt : b < w.heap.size
  cell : ∀ n s, n ≤ 64 → s ≤ 64 → w.cell? ⟨b, n * 65 + s, none⟩ = some (.int .i64 (f n s))
  froz : ∀ o, w.frozen? ⟨b, o, none⟩ = false
def updF (f : Nat → Nat → Nat) (n s v : Nat) : Nat → Nat → Nat := fun a b => if a = n ∧ b = s then v else f a b
theorem TabIs.drew {w : World} {b : Nat} {f : Nat → Nat → Nat} (h : TabIs w b f) (n : Nat) : TabIs (w.drewN n) b f := ⟨h.lt, h.cell, h.froz⟩
theorem TabIs.drew1 {w : World} {b : Nat} {f : Nat → Nat → Nat} (h : TabIs w b f) : TabIs w.drew b f := ⟨h.lt, h.cell, h.froz⟩
theorem TabIs.set {w : World} {b : Nat} {f : Nat → Nat → Nat} (h : TabIs w b f) (n s v : Nat) (hn : n ≤ 64) (hs : s ≤ 64) : TabIs (w.setCell ⟨b, n * 65 + s, none⟩ (.int .i64 v)) b (updF f n s v) where
  lt := by rw [set_size]; exact h.lt
  cell := fun a c ha hc => by
    unfold updF
    by_cases e : a = n ∧ c = s
    · obtain ⟨rfl, rfl⟩ := e
      rw [if_pos ⟨rfl, rfl⟩]; exact set_eq _ _ _ _ _ (h.cell a c ha hc)
    · rw [if_neg e]; exact (set_ne _ _ _ _ _ (by omega)).trans (h.cell a c ha hc)
  froz := fun o => by rw [World.frozen?_setCell]; exact h.froz o
theorem TabIs.far {w : World} {b : Nat} {f : Nat → Nat → Nat} (h : TabIs w b f) (g o : Nat) (hg : g ≠ b) (v : Value) : TabIs (w.setCell ⟨g, o, none⟩ v) b f where
  lt := by rw [set_size]; exact h.lt
  cell := fun a c ha hc => (World.cell?_setCell_other _ _ _ _ (fun e => hg (congrArg Addr.block e))).trans (h.cell a c ha hc)
  froz := fun o => by rw [World.frozen?_setCell]; exact h.froz o

/-- Both tables, done up to row N, column S. -/
def TwoTabs (w wr : World) (N S : Nat) : Prop := ∃ cf ff : Nat → Nat → Nat, TabIs wr w.heap.size cf ∧ TabIs wr (w.heap.size + 1) ff ∧ Up w wr ∧
  ∀ a b, a ≤ 64 → b ≤ 64 → (a < N ∨ (a = N ∧ b < S)) → cf a b = costF a b ∧ ff a b = firstF a b
/-- .. and nothing yet behind. -/
def TwoTabs0 (w wr : World) (N S : Nat) : Prop := ∃ cf ff : Nat → Nat → Nat, TabIs wr w.heap.size cf ∧ TabIs wr (w.heap.size + 1) ff ∧ Up w wr ∧
  (∀ a b, a ≤ 64 → b ≤ 64 → (a < N ∨ (a = N ∧ b < S)) → cf a b = costF a b ∧ ff a b = firstF a b) ∧ ∀ a b, a ≤ 64 → b ≤ 64 → ¬ (a < N ∨ (a = N ∧ b < S)) → ff a b = 0

theorem TabIs.up {w w' : World} {b : Nat} {f : Nat → Nat → Nat} (h : TabIs w b f) (u : Up w w') : TabIs w' b f :=
  ⟨Nat.lt_of_lt_of_le h.lt u.size, fun n s hn hs => (u.cell _ _ h.lt).trans (h.cell n s hn hs), fun o => (u.frozen _ _ h.lt).trans (h.froz o)⟩
theorem TwoTabs0.up {w w1 w2 : World} {N S : Nat} (h : TwoTabs0 w w1 N S) (u : Up w1 w2) : TwoTabs0 w w2 N S := by
  obtain ⟨cf, ff, t1, t2, t3, t4, t5⟩ := h
  exact ⟨cf, ff, t1.up u, t2.up u, t3.trans u, t4, t5⟩
theorem next_facts {cf ff : Nat → Nat → Nat} {n s c f : Nat} (t4 : ∀ a b, a ≤ 64 → b ≤ 64 → (a < n ∨ (a = n ∧ b < s)) → cf a b = costF a b ∧ ff a b = firstF a b) (t5 : ∀ a b, a ≤ 64 → b ≤ 64 → ¬ (a < n ∨ (a = n ∧ b < s)) → ff a b = 0) (hc : costF n s = c) (hf : firstF n s = f) :
    (∀ a b, a ≤ 64 → b ≤ 64 → (a < n ∨ (a = n ∧ b < s + 1)) → updF cf n s c a b = costF a b ∧ updF ff n s f a b = firstF a b) ∧ ∀ a b, a ≤ 64 → b ≤ 64 → ¬ (a < n ∨ (a = n ∧ b < s + 1)) → updF ff n s f a b = 0 := by
  refine ⟨fun a b ha hb h => ?_, fun a b ha hb h => ?_⟩
  · unfold updF
    by_cases e : a = n ∧ b = s
    · obtain ⟨rfl, rfl⟩ := e
      rw [if_pos ⟨rfl, rfl⟩, if_pos ⟨rfl, rfl⟩]; exact ⟨hc.symm, hf.symm⟩
    · rw [if_neg e, if_neg e]; exact t4 a b ha hb (by omega)
  · unfold updF
    rw [if_neg (by omega)]; exact t5 a b ha hb (by omega)
theorem TwoTabs0.next1 {w w1 : World} {n s c f : Nat} (h : TwoTabs0 w w1 n s) (hn : n ≤ 64) (hs : s ≤ 64) (hc : costF n s = c) (hf : firstF n s = f) :
    TwoTabs0 w ((w1.setCell ⟨w.heap.size, n * 65 + s, none⟩ (.int .i64 c)).setCell ⟨w.heap.size + 1, n * 65 + s, none⟩ (.int .i64 f)) n (s + 1) := by
  obtain ⟨cf, ff, t1, t2, t3, t4, t5⟩ := h
  obtain ⟨f1, f2⟩ := next_facts t4 t5 hc hf
  exact ⟨_, _, (t1.set n s c hn hs).far _ _ (by omega) _, (t2.far _ _ (by omega) _).set n s f hn hs, (t3.setCell (Nat.le_refl _) _).setCell (by show w.heap.size ≤ w.heap.size + 1; omega) _, f1, f2⟩
theorem TwoTabs0.next2 {w w1 : World} {n s c f : Nat} (h : TwoTabs0 w w1 n s) (hn : n ≤ 64) (hs : s ≤ 64) (hc : costF n s = c) (hf : firstF n s = f) :
    TwoTabs0 w ((w1.setCell ⟨w.heap.size + 1, n * 65 + s, none⟩ (.int .i64 f)).setCell ⟨w.heap.size, n * 65 + s, none⟩ (.int .i64 c)) n (s + 1) := by
  obtain ⟨cf, ff, t1, t2, t3, t4, t5⟩ := h
  obtain ⟨f1, f2⟩ := next_facts t4 t5 hc hf
  exact ⟨_, _, (t1.far _ _ (by omega) _).set n s c hn hs, (t2.set n s f hn hs).far _ _ (by omega) _, (t3.setCell (by show w.heap.size ≤ w.heap.size + 1; omega) _).setCell (Nat.le_refl _) _, f1, f2⟩
theorem TwoTabs0.row {w w1 : World} {n : Nat} (h : TwoTabs0 w w1 n 65) : TwoTabs0 w w1 (n + 1) 0 := by
  obtain ⟨cf, ff, t1, t2, t3, t4, t5⟩ := h
  exact ⟨cf, ff, t1, t2, t3, fun a b ha hb h => t4 a b ha hb (by omega), fun a b ha hb h => t5 a b ha hb (by omega)⟩
theorem TwoTabs0.head {w w1 : World} {n D : Nat} (h : TwoTabs0 w w1 n 0) (hn : n ≤ 64) (hD : costF n 0 = D) : TwoTabs0 w (w1.setCell ⟨w.heap.size, n * 65, none⟩ (.int .i64 D)) n 1 := by
  obtain ⟨cf, ff, t1, t2, t3, t4, t5⟩ := h
  have hs := t1.set n 0 D hn (by omega)
  rw [Nat.add_zero] at hs
  refine ⟨_, ff, hs, t2.far _ _ (by omega) _, t3.setCell (Nat.le_refl _) _, fun a b ha hb h => ?_, fun a b ha hb h => t5 a b ha hb (by omega)⟩
  by_cases e : a = n ∧ b = 0
  · obtain ⟨rfl, rfl⟩ := e
    refine ⟨by unfold updF; rw [if_pos ⟨rfl, rfl⟩]; exact hD.symm, ?_⟩
    rw [t5 a 0 ha hb (by omega), firstF, if_pos (Or.inr rfl)]
  · unfold updF; rw [if_neg e]; exact t4 a b ha hb (by omega)
end Go.Proofs.Ytdanjghefhjmcaa
