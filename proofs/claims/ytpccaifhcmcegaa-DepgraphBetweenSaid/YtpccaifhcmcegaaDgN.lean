/-
  Structs of many cells: one-element rows, loads and rows inside regions that draw their order.
-/
import Derived.Test.YtpccaifhcmcegaaGe
import Derived.Test.YtpccaifhcmcegaaGb
import Derived.Great.BuildSlice
namespace Go.Proofs.Ytpccaifhcmcegaa
set_option linter.unusedSimpArgs false
open Go.ChangeShapes Go.WideShapes Go.ChangeAt Go.RowKit
set_option linter.unusedVariables false
set_option maxRecDepth 100000

theorem run_build1 {T E : TypeId} {k B : Nat} (hT : RowT T E k B) (hk : k ≤ 1000) {cs : Array Value} (hs : cs.size = k) (w : World) :
    (Instr.buildSlice T 1 #[(0, .agg cs)]).run Try.prog w = .ok (.slice (some ⟨w.heap.size, 0, none⟩) 1 1) (w.alloc (.cells cs E)) := by
  obtain ⟨i, z, i0, i1, i2, i3, i4⟩ := hT.info
  have hp := hT.pos
  refine run_buildSlice w T E 1 _ cs i z hT.sl i0 i1 (by rw [i2]; omega) (by rw [i2]; omega) ?_
  rw [i2]
  have h := Great.fill_whole (s := k) hp [.agg cs] ((Array.range (1 * k)).map (z.cells[· % z.cells.size]!)) (fun v hv => by rw [List.mem_singleton.1 hv]; exact hs) (by simp)
  simpa [Value.cells] using h
/-- A store of a whole struct into a box. -/
theorem run_put {P : Program} {T : TypeId} {k g : Nat} (hi : (P.info? T).map (·.size) = some k) {w : World} {t : TypeId} {Z cs : Array Value} (hb : BoxC w g t Z) (hz : Z.size = k) (hs : cs.size = k) (h1 : cs.all (·.oneCell') = true) :
    (Instr.storeAt T (.pointer (some ⟨g, 0, none⟩)) (.agg cs)).run P w = .ok () (w.setRow g cs) := by
  have := run_storeVar_row (P := P) w g t T Z cs hb (by rw [hi, hs]) (by rw [hz, hs]) h1
  simp only [Instr.storeAt, Instr.sureAddr, Sem.run_bind, Sem.run_pure, Result.andThen_ok, this]
theorem BoxC.row {w : World} {g : Nat} {t : TypeId} {Z : Array Value} (hb : BoxC w g t Z) (cs : Array Value) : BoxC (w.setRow g cs) g t cs := setRow_heap _ _ _ _ _ _ hb
theorem setRow_by (w : World) (g : Nat) (cs : Array Value) : w.grownBy (w.setRow g cs) (some g) := ⟨rfl, rfl, rfl, by simp, fun k hk hne => setRow_other _ _ _ _ (fun e => hne (congrArg some e))⟩
/-- One element, known by its block. -/
theorem LsAt.blk {α : Type} {k B : Nat} {R : Rel α} {x : World} {b : Nat} {E : TypeId} {cs : Array Value} {d : α} (hs : cs.size = k) (hB : B ≤ 140737488351232) (h : x.heap[b]? = some (.cells cs E (0, 0))) (hR : R x (fun j => cs.getD j undef) d) : LsAt k B R x (.slice (some ⟨b, 0, none⟩) 1 1) [d] := by
  refine ⟨⟨_, 1, rfl, Nat.le_refl _⟩, by simpa using hB, fun _ j => cs.getD j undef, ⟨⟨_, _, rfl, (fun h => nomatch h), fun y hy _ => ?_⟩, by simp⟩, fun i hi => ?_⟩
  · cases hy
    refine ⟨rfl, (Array.getElem?_eq_some_iff.1 h).1, fun i j hi hj => ?_⟩
    obtain rfl : i = 0 := by simpa using hi
    rw [cell_of_row _ _ _ _ _ _ h, Nat.zero_mul, Nat.add_zero, Nat.zero_add, Array.getD_eq_getD_getElem?, Array.getElem?_eq_getElem (by omega)]; rfl
  · obtain rfl : i = 0 := by simpa using hi
    exact hR
section
variable {ops : Array Oper} {rest : List Oper} {a : Act} {Q : Exit → Act → World → Prop} {w : World}
/-- A slice literal of one struct. -/
theorem st_build {T E : TypeId} {k B : Nat} (hT : RowT T E k B) (hk : k ≤ 1000) {cs : Array Value} (hs : cs.size = k) {dst : Option Nat} {x : Operand} {ty : TypeId} {pos : String} {af : Array Edge} (hx : a.eval x = .agg cs)
    (h : wpList Try.prog ops Q rest (a.put dst (.slice (some ⟨w.heap.size, 0, none⟩) 1 1)) (w.alloc (.cells cs E))) : wpList Try.prog ops Q ({ dst := dst, op := .buildSlice T 1 #[(0, x)], type := ty, pos := pos, after := af, guard := none } :: rest) a w :=
  wpList_plain rfl fun _ hK => by
    unfold Oper.wp execOp
    have e : (#[(0, x)].map fun (p : Nat × Operand) => (p.1, a.eval p.2)) = #[(0, Value.agg cs)] := by simp [hx]
    simp only [e, run_build1 hT hk hs, Sem.run_bind, Sem.run_pure, Result.andThen_ok]
    exact hK _ _ h
end
section
variable {ops : Array Oper} {w : World} {M : FuncId → Array Value → Value → World → Prop} {L : Act → (World → Prop) → Prop}
theorem wpMk_load (hL : AntiS (w := w) L) {rest : List Oper} {a : Act} {S : World → Prop} {T : TypeId} {p V : Value} (hrun : ∀ x, Up w x → (Instr.loadAt T p).run Try.prog x = .ok V x) {dst : Option Nat} {y : Operand} {ty : TypeId} {pos : String} {af : Array Edge} (hy : a.eval y = p)
    (h : wpMk Try.prog ops M w L rest (a.put dst V) (fun x => S x ∧ True)) : wpMk Try.prog ops M w L ({ dst := dst, op := .load T y, type := ty, pos := pos, after := af, guard := none } :: rest) a S :=
  wpMk_any hL (fun v _ => v = V) (fun _ _ _ h _ => h) rfl (fun x hx => ⟨V, x, by
    unfold execOp
    simp only [hy, hrun x hx, Sem.run_bind, Sem.run_pure, Result.andThen_ok], Up.refl x, rfl⟩) (fun v ⟨_, _, hv⟩ => by
    subst hv
    exact wpMk_anti hL _ _ _ _ (fun x _ ⟨h1, _⟩ => ⟨h1, trivial⟩) h)
theorem wpMk_build (hL : AntiS (w := w) L) {rest : List Oper} {a : Act} {S : World → Prop} {T E : TypeId} {k B : Nat} (hT : RowT T E k B) (hk : k ≤ 1000) {cs : Array Value} (hs : cs.size = k) {dst : Option Nat} {y : Operand} {ty : TypeId} {pos : String} {af : Array Edge} (hy : a.eval y = .agg cs)
    (h : ∀ b, w.heap.size ≤ b → wpMk Try.prog ops M w L rest (a.put dst (.slice (some ⟨b, 0, none⟩) 1 1)) (fun x => S x ∧ x.heap[b]? = some (.cells cs E (0, 0)))) : wpMk Try.prog ops M w L ({ dst := dst, op := .buildSlice T 1 #[(0, y)], type := ty, pos := pos, after := af, guard := none } :: rest) a S := by
  refine wpMk_any hL (fun v y => ∃ b, v = .slice (some ⟨b, 0, none⟩) 1 1 ∧ w.heap.size ≤ b ∧ y.heap[b]? = some (.cells cs E (0, 0))) (fun v x y ⟨b, h1, h2, h3⟩ hu => ⟨b, h1, h2, by rw [hu.heap b (Array.getElem?_eq_some_iff.1 h3).1]; exact h3⟩) rfl
    (fun x hx => ⟨_, _, by
      unfold execOp
      have e : (#[(0, y)].map fun (p : Nat × Operand) => (p.1, a.eval p.2)) = #[(0, Value.agg cs)] := by simp [hy]
      simp only [e, run_build1 hT hk hs, Sem.run_bind, Sem.run_pure, Result.andThen_ok], (Up.refl x).alloc _, x.heap.size, rfl, hx.size, heap_alloc_new x _⟩) (fun v ⟨y, _, b, h1, h2, _⟩ => ?_)
  subst h1
  refine wpMk_anti hL _ _ _ _ (fun x _ ⟨h3, b', h4, h5, h6⟩ => ?_) (h b h2)
  cases h4
  exact ⟨h3, h6⟩
end
end Go.Proofs.Ytpccaifhcmcegaa
