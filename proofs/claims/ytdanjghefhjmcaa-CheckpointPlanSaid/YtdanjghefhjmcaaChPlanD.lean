/-
  The planner: one action, and a run of advances (chapter 28, the program's side).
-/
import Derived.Test.YtdanjghefhjmcaaChBrute
import Derived.Test.YtdanjghefhjmcaaChRefPlan
namespace Go.Proofs.Ytdanjghefhjmcaa
open Go.ChangeShapes Go.WideShapes Go.ChangeAt Go.RowKit
set_option linter.unusedVariables false
set_option linter.unusedSimpArgs false

theorem act_info : (Try.prog.info? 42).map (fun i => (i.zero, i.size, i.bytes)) = some (some (.agg #[.int .i64 0, .int .i64 0, .int .i64 0]), 3, 24) := by kernel_rfl

def actCells (l : List Actn) : List Value := l.flatMap fun a => [.int .i64 a.1, .int .i64 a.2.1, .int .i64 a.2.2]
theorem actCells_snoc (l : List Actn) (a : Actn) : actCells (l ++ [a]) = actCells l ++ [.int .i64 a.1, .int .i64 a.2.1, .int .i64 a.2.2] := by simp [actCells]

/-- The planner in block b: the table's block, the slots, the plan so far, in a row of its own (from block h on). -/
def PlanAt (w : World) (h b fb : Nat) (slots : Int) (l : List Actn) : Prop :=
  ∃ a cap, w.heap[b]? = some (.cells #[.pointer (some ⟨fb, 0, none⟩), .int .i64 slots, .slice a l.length cap] 63 (0, 0)) ∧ w.ownsRow h 42 3 (.slice a l.length cap) l.length (actCells l) ∧ b < h ∧ h ≤ w.heap.size

/-- What turns nothing but the planner and its plan. -/
structure UpPlan (h b : Nat) (w w' : World) : Prop where
  os : w'.os = w.os
  tape : w'.tape = w.tape
  output : w'.output = w.output
  size : w.heap.size ≤ w'.heap.size
  block : ∀ k, k < h → k ≠ b → w'.heap[k]? = w.heap[k]?
theorem UpPlan.refl (h b : Nat) (w : World) : UpPlan h b w w := ⟨rfl, rfl, rfl, Nat.le_refl _, fun _ _ _ => rfl⟩
theorem UpPlan.trans {h b : Nat} {x y z : World} (p : UpPlan h b x y) (q : UpPlan h b y z) : UpPlan h b x z :=
  ⟨q.os.trans p.os, q.tape.trans p.tape, q.output.trans p.output, Nat.le_trans p.size q.size, fun k hk hb => (q.block k hk hb).trans (p.block k hk hb)⟩

set_option maxHeartbeats 2000000 in
set_option maxRecDepth 100000 in
theorem plan_do (w : World) (h b fb : Nat) (slots : Int) (l : List Actn) (op at' sl : Int) (hp : PlanAt w h b fb slots l) (hl : l.length ≤ 65536) :
    Calls Try.prog 34 #[.pointer (some ⟨b, 0, none⟩), .int .i64 op, .int .i64 at', .int .i64 sl] w fun e w' => e = .returned (.tuple #[]) ∧ PlanAt w' h b fb slots (l ++ [(op, at', sl)]) ∧ UpPlan h b w w' := by
  obtain ⟨i0, hi0, hz0, hz1, hz2⟩ := info_parts act_info
  obtain ⟨a, cap, hrow, hown, hbh, hsz⟩ := hp
  have c0 : w.cell? ⟨b, 2, none⟩ = some (.slice a l.length cap) := cell_of_row _ _ _ _ _ _ hrow
  have z0 := fun o => frozen_of_row _ _ o _ _ hrow
  have HR := Lib.hid hrow
  have HO := Lib.hid hown
  obtain ⟨len, hlen⟩ : ∃ n, l.length = n := ⟨_, rfl⟩
  have HL := Lib.hid hlen
  rw [hlen] at c0 HO hl
  have hbw : b < w.heap.size := by omega
  clear hrow hown hlen
  have key : Hid (∀ w1, (w.alloc (.cells #[.int .i64 op, .int .i64 at', .int .i64 sl] 42)).grownBy w1 (Value.slice a len cap).ownBlock → w1.cell? ⟨b, 2, none⟩ = some (.slice a len cap) ∧ (∀ o, w1.frozen? ⟨b, o, none⟩ = false) ∧ Hid (w1.heap[b]? = some (.cells #[.pointer (some ⟨fb, 0, none⟩), .int .i64 slots, .slice a len cap] 63 (0, 0))) ∧ Hid (UpPlan h b w w1) ∧ Hid (h ≤ w1.heap.size)) := Lib.hid (by
    intro w1 hg
    have hr := HR.out
    rw [HL.out] at hr
    have g0 := (hg.block b (by rw [size_alloc]; omega) (fun e => by have := (HO.out.lt b e.symm).1; omega)).trans ((Below.heap_alloc _ _ _ hbw).trans hr)
    have hs := hg.size
    rw [size_alloc] at hs
    exact ⟨cell_of_row _ _ _ _ _ _ g0, fun o => frozen_of_row _ _ o _ _ g0, Lib.hid g0, Lib.hid ⟨hg.os, hg.tape, hg.output, by omega, fun k hk _ => (hg.block k (by rw [size_alloc]; omega) (fun e => by have := (HO.out.lt k e.symm).1; omega)).trans (Below.heap_alloc _ _ _ (by omega))⟩, Lib.hid (by omega)⟩)
  have hsl : SlAt (w.alloc (.cells #[.int .i64 op, .int .i64 at', .int .i64 sl] 42)) (.slice (some ⟨w.heap.size, 0, none⟩) 1 1) 1 3 (fun _ j => match j with | 0 => .int .i64 op | 1 => .int .i64 at' | _ => .int .i64 sl) := by
    refine ⟨⟨some ⟨w.heap.size, 0, none⟩, 1, rfl, (fun e => nomatch e), fun x hx _ => ?_⟩, by decide⟩
    cases hx
    refine ⟨rfl, by simp, fun i j hi hj => ?_⟩
    obtain rfl : i = 0 := by omega
    rw [cell_of_row _ _ _ _ _ _ (heap_alloc_new w _)]
    rcases (by omega : j = 0 ∨ j = 1 ∨ j = 2) with rfl | rfl | rfl <;> rfl
  have HSL := Lib.hid hsl
  clear hsl
  go_enter Try.func34, Try.ntmps34
  go_wp2_with (at_builtin; refine wpList_append_sl _ rfl _ _ 32 rfl h 42 i0 _ 3 24 Try.underlying32 hi0 hz0 hz1 hz2 rfl (by decide) (.slice a len cap) len _ rfl (HO.out.alloc _) (.slice (some ⟨w.heap.size, 0, none⟩) 1 1) 1 _ rfl HSL.out (fun i j _ _ => by rcases j with _ | _ | j <;> rfl) (by unfold maxLen; omega) (by omega) (by simp; omega) ?_; intro v1 w1 hown1 hg1 hat1 hnil1; obtain ⟨va, vc, rfl⟩ := own_slice' hown1; obtain ⟨d0, d1, HD2, HD3, HD4⟩ := key.out w1 hg1; have HO1 := Lib.hid hown1; clear hown1 hg1 hat1 hnil1)
  go_end0
  refine ⟨rfl, ⟨va, vc, ?_, ?_, hbh, by rw [set_size]; exact HD4.out⟩, ?_⟩
  · have := HD2.out
    rw [List.length_append, HL.out]
    simp [World.setCell, Array.getElem?_modify, this]
  · rw [List.length_append, HL.out, actCells_snoc]
    exact ownsRow_setCell_below HO1.out hbh _
  · have hu := HD3.out
    exact ⟨hu.os, hu.tape, hu.output, by rw [set_size]; exact hu.size, fun k hk hb => (Below.heap_setCell _ _ _ _ hb).trans (hu.block k hk hb)⟩
end Go.Proofs.Ytdanjghefhjmcaa
