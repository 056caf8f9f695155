/-
  How an argument that is a list of actions reads.
-/
import Derived.Test.YtdanjghefhjmcaaChPlan
import Derived.Deep.Slices
import Derived.Deep.Fields
import Derived.ChangeSame
import Derived.Lib.SmallJoins
namespace Go.Proofs.Ytdanjghefhjmcaa
open Go.ChangeShapes Go.WideShapes Go.ChangeAt Go.RowKit Go.Joins Go.Deep
set_option linter.unusedVariables false

/-- The number in a cell. -/
def numAt (w : World) (b o : Nat) : Int := match w.cell? ⟨b, o, none⟩ with
  | some (.int _ n) => n
  | _ => 0
def actsOf (w : World) (b o len : Nat) : List Actn := (List.range len).map fun i => (numAt w b (o + i * 3), numAt w b (o + i * 3 + 1), numAt w b (o + i * 3 + 2))

theorem cellsAction : Try.prog.cellsOf 42 = 3 := by kernel_rfl

theorem acts_at {w : World} {b o len : Nat} (h : ∀ i j, i < len → j < 3 → ∃ n, w.cell? ⟨b, o + i * 3 + j, none⟩ = some (.int .i64 n) ∧ (Lit.int .i64 n).wf = true) :
    (∀ i j, i < len → j < 3 → w.cell? ⟨b, o + i * 3 + j, none⟩ = some (actF (actsOf w b o len) i j)) ∧ ∀ a ∈ actsOf w b o len, (Lit.int .i64 a.1).wf = true ∧ (Lit.int .i64 a.2.1).wf = true ∧ (Lit.int .i64 a.2.2).wf = true := by
  have key : ∀ i j, i < len → j < 3 → w.cell? ⟨b, o + i * 3 + j, none⟩ = some (.int .i64 (numAt w b (o + i * 3 + j))) ∧ (Lit.int .i64 (numAt w b (o + i * 3 + j))).wf = true := fun i j hi hj => by
    obtain ⟨n, hn, hw⟩ := h i j hi hj
    unfold numAt
    rw [hn]
    exact ⟨rfl, hw⟩
  refine ⟨fun i j hi hj => ?_, fun a ha => ?_⟩
  · rw [(key i j hi hj).1]
    have hg : (actsOf w b o len).getD i (0, 0, 0) = (numAt w b (o + i * 3), numAt w b (o + i * 3 + 1), numAt w b (o + i * 3 + 2)) := by
      unfold actsOf
      rw [List.getD, List.getElem?_map, List.getElem?_range hi]; rfl
    unfold actF
    rw [hg]
    rcases (by omega : j = 0 ∨ j = 1 ∨ j = 2) with rfl | rfl | rfl <;> rfl
  · obtain ⟨i, hi, rfl⟩ := List.mem_map.1 ha
    have hi' := List.mem_range.1 hi
    exact ⟨(key i 0 hi' (by omega)).2, (key i 1 hi' (by omega)).2, (key i 2 hi' (by omega)).2⟩

theorem add_at (b o k : Nat) : (⟨b, o, none⟩ : Addr).add k = ⟨b, o + k, none⟩ := by
  simp only [Addr.add]
  split
  · rename_i h; rw [h]; rfl
  · rfl

/-- A list of actions as an argument. -/
def ActsArg (w : World) (v : Value) (l : List Actn) : Prop := IsActs w v l ∧ (∀ a ∈ l, (Lit.int .i64 a.1).wf = true ∧ (Lit.int .i64 a.2.1).wf = true ∧ (Lit.int .i64 a.2.2).wf = true) ∧ ∃ a cap, v = .slice a l.length cap

theorem open_Acts {H : Type} {enc : TypeId × Value → H} {w : World} {base : Nat} {spare : Nat → Bool} {held : Bool} {r : Reach} {b0 : Nat} {v : Value} {d : DataW H} {p : List MemPlace}
    (hv : Value.okWide Try.prog w r b0 32 v) (h : DataW.Trod enc Try.prog w base spare held 32 v d p) : ∃ l, ActsArg w v l := by
  obtain ⟨a0, len, cap, rfl⟩ := okWide_slice Try.underlying32 hv
  obtain ⟨fuel, hf⟩ := h
  rcases open_slice Try.underlying32 hf with ⟨hcs, _⟩ | ⟨a, len1, cap1, m, n, D, Pl, hcs, hb, hl, hm, hmm, hx, hi⟩
  · simp only [Value.cells, List.cons.injEq, and_true] at hcs
    cases hcs
    exact ⟨[], ⟨⟨none, 0, rfl, (fun _ => rfl), (fun x hx => nomatch hx)⟩, by decide⟩, by simp, none, 0, rfl⟩
  · simp only [Value.cells, List.cons.injEq, and_true] at hcs
    cases hcs
    rw [cellsAction] at hi
    have hlm : len ≤ m := by rw [hmm]; split <;> omega
    have key : ∀ i j, i < len → j < 3 → ∃ n, w.cell? (a.add (i * 3 + j)) = some (.int .i64 n) ∧ (Lit.int .i64 n).wf = true := by
      intro i j hil hj
      obtain ⟨cs', hc, ht⟩ := hi i (by omega)
      obtain ⟨ys, n', hn', hy, hlen, hyl, hg⟩ := DataW.trod_struct Try.underlying42 ht
      obtain ⟨_, hcl, hat⟩ := World.cells?_some hc
      have hcell := hat j hj
      have hv : cs'[j]? = some (cs'[j]'(by omega)) := List.getElem?_eq_getElem (by omega)
      rw [Go.Deep.add_add, hv] at hcell
      have one : (cs'.drop j).take 1 = [cs'[j]'(by omega)] := by
        rw [List.drop_eq_getElem_cons (by omega)]; rfl
      have fin : ∀ (y : DataW H × List MemPlace), DataW.trod enc Try.prog w base spare held n' 3 [cs'[j]'(by omega)] = some y → ∃ n, w.cell? (a.add (i * 3 + j)) = some (.int .i64 n) ∧ (Lit.int .i64 n).wf = true := fun y hy => by
        obtain ⟨n, e, _, hw⟩ := DataW.trod_int Try.underlying3 hy
        exact ⟨n, by rw [hcell]; simpa using e, hw⟩
      have hys : ys[j]? = some (ys[j]'(by rw [hyl]; exact hj)) := List.getElem?_eq_getElem _
      rcases (by omega : j = 0 ∨ j = 1 ∨ j = 2) with rfl | rfl | rfl
      · have := hg 0 _ rfl
        exact fin _ (by rw [← one]; exact this.trans hys)
      · have := hg 1 _ rfl
        exact fin _ (by rw [← one]; exact this.trans hys)
      · have := hg 2 _ rfl
        exact fin _ (by rw [← one]; exact this.trans hys)
    by_cases h0 : len = 0
    · subst h0
      exact ⟨[], ⟨⟨some a, cap, rfl, (fun e => nomatch e), fun x hx hl => absurd hl (by decide)⟩, by decide⟩, by simp, some a, cap, rfl⟩
    · have hs : a.spot = none := by
        obtain ⟨n, hn, _⟩ := key 0 0 (by omega) (by omega)
        have := World.cell?_spot hn
        simpa [Addr.add] using this
      obtain ⟨b, o, sp⟩ := a
      have hs' : sp = none := hs
      subst hs'
      obtain ⟨k1, k2⟩ := acts_at (w := w) (b := b) (o := o) (len := len) (fun i j hi hj => by
        have := key i j hi hj
        rw [add_at] at this
        rw [show o + i * 3 + j = o + (i * 3 + j) by omega]
        exact this)
      have hlen : (actsOf w b o len).length = len := by simp [actsOf]
      have hlt : b < w.heap.size := by
        obtain ⟨n, hn, _⟩ := key 0 0 (by omega) (by omega)
        rw [add_at] at hn
        exact World.block_lt_of_cell? _ _ hn
      refine ⟨actsOf w b o len, ?_, k2, some ⟨b, o, none⟩, cap, by rw [hlen]⟩
      unfold IsActs
      rw [hlen]
      refine ⟨⟨some ⟨b, o, none⟩, cap, rfl, (fun e => nomatch e), fun x hx _ => ?_⟩, ?_⟩
      · cases hx
        exact ⟨rfl, hlt, k1⟩
      · have : maxLen = 9223372036854775807 := rfl
        omega
end Go.Proofs.Ytdanjghefhjmcaa
