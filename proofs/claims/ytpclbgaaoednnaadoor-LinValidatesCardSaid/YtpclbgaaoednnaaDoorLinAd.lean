/-
  Add of the program's side.
-/
import Derived.Test.YtpclbgaaoednnaaDoorLinM2
namespace Go.Proofs.YtpclbgaaoednnaaDoor
set_option linter.unusedSimpArgs false
open Go.ChangeShapes Go.WideShapes Go.ChangeAt Go.RowKit
set_option linter.unusedVariables false

def addF (K : Int) (l : List Mono) (K' : Int) (l' : List Mono) : Int × List Mono × Int :=
  if okL l && okL l' then
    (if (mergeF l l' ([], fitB (K + K'))).2 then (wrap64 (K + K'), (mergeF l l' ([], fitB (K + K'))).1, 0) else (0, [], 3))
  else (0, [], 1)

theorem own_max {w : World} {base n k : Nat} {e : TypeId} {v : Value} {xs : List Value} (h : w.ownsRow base e k v n xs) : n ≤ 9223372036854775807 := by
  rcases h.2 with ⟨_, rfl⟩ | ⟨g, cap, cur, _, _, _, hnc, hcm, _⟩
  · omega
  · have : maxLen = 9223372036854775807 := rfl
    omega
theorem SlAt.far {w : World} {v : Value} {len k b : Nat} {f : Nat → Nat → Value} (h : SlAt w v len k f) (hb : ∀ a n c, v = .slice (some a) n c → a.block ≠ b) (o : Nat) (u : Value) : SlAt (w.setCell ⟨b, o, none⟩ u) v len k f := by
  obtain ⟨⟨a, cap, hv, h0, h1⟩, h2⟩ := h
  refine ⟨⟨a, cap, hv, h0, fun x hx hl => ?_⟩, h2⟩
  obtain ⟨g1, g2, g3⟩ := h1 x hx hl
  refine ⟨g1, by rw [set_size]; exact g2, fun i j hi hj => ?_⟩
  rw [← g3 i j hi hj]
  exact World.cell?_setCell_other _ _ _ _ (fun e => hb x _ _ (by rw [hv, hx]) (congrArg Addr.block e).symm)

theorem AddAt.new (x : World) (c : Int) (f : Bool) : AddAt ((x.alloc (.cells #[.int .i64 c, .slice none 0 0] 24)).alloc (.cells #[.bool f] 4)) (x.heap.size + 1 + 1) x.heap.size (x.heap.size + 1) c ([], f) := by
  refine ⟨⟨0, none, 0, rfl, (Below.heap_alloc _ _ _ (by rw [size_alloc]; omega)).trans (heap_alloc_new x _), World.ownsRow_nil _ _ _ _, by omega, by rw [size_alloc, size_alloc]; omega⟩, ?_, by omega, by omega⟩
  have := heap_alloc_new (x.alloc (.cells #[.int .i64 c, .slice none 0 0] 24)) (.cells #[.bool f] 4)
  rw [size_alloc] at this; exact this

end Go.Proofs.YtpclbgaaoednnaaDoor

