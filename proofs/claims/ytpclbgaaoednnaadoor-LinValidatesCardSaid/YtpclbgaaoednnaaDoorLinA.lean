/-
  A linear form that grows: a struct of the call's own in block O, its monomials in a row of its own (from block h on).
-/
import Derived.Test.YtpclbgaaoednnaaDoorLinO
import Derived.Test.YtpclbgaaoednnaaDoorLinU
import Derived.Maps.AppendAt
import Derived.Deep.CutRange
import Derived.Deep.DeepCutAuto
namespace Go.Proofs.YtpclbgaaoednnaaDoor
set_option linter.unusedSimpArgs false
open Go.ChangeShapes Go.WideShapes Go.ChangeAt Go.RowKit
set_option linter.unusedVariables false

theorem mono_info : (Tryd.prog.info? 31).map (fun i => (i.zero, i.size, i.bytes)) = some (some (.agg #[.string ByteArray.empty, .int .i64 0]), 2, 24) := by kernel_rfl

def monoCells (l : List Mono) : List Value := l.flatMap fun m => [.string m.1, .int .i64 m.2]
theorem monoCells_snoc (l : List Mono) (m : Mono) : monoCells (l ++ [m]) = monoCells l ++ [.string m.1, .int .i64 m.2] := by simp [monoCells]
theorem monoCells_get : ∀ (l : List Mono) (i j : Nat), i < l.length → j < 2 → (monoCells l)[i * 2 + j]? = some (monoF l i j)
  | [], i, j, hi, _ => absurd hi (by simp)
  | m :: r, 0, j, _, hj => by rcases (by omega : j = 0 ∨ j = 1) with rfl | rfl <;> rfl
  | m :: r, i + 1, j, hi, hj => by
    rw [show (i + 1) * 2 + j = (i * 2 + j) + 2 by omega]
    show ((.string m.1 : Value) :: .int .i64 m.2 :: monoCells r)[i * 2 + j + 2]? = _
    rw [List.getElem?_cons_succ, List.getElem?_cons_succ, monoCells_get r i j (by simpa using hi) hj]
    rcases (by omega : j = 0 ∨ j = 1) with rfl | rfl <;> rfl

/-- What turns nothing below h but block b. -/
structure UpRow (h b : Nat) (w w' : World) : Prop where
  os : w'.os = w.os
  tape : w'.tape = w.tape
  output : w'.output = w.output
  size : w.heap.size ≤ w'.heap.size
  block : ∀ k, k < h → k ≠ b → w'.heap[k]? = w.heap[k]?
theorem UpRow.refl (h b : Nat) (w : World) : UpRow h b w w := ⟨rfl, rfl, rfl, Nat.le_refl _, fun _ _ _ => rfl⟩
theorem UpRow.trans {h b : Nat} {x y z : World} (p : UpRow h b x y) (q : UpRow h b y z) : UpRow h b x z :=
  ⟨q.os.trans p.os, q.tape.trans p.tape, q.output.trans p.output, Nat.le_trans p.size q.size, fun k hk hb => (q.block k hk hb).trans (p.block k hk hb)⟩
theorem Up.row {w w' : World} (u : Up w w') {h b : Nat} (hh : h ≤ w.heap.size) : UpRow h b w w' := ⟨Below.os u, Below.tape u, Below.output u, u.size, fun k hk _ => Below.block u k (by omega)⟩
theorem UpRow.cell {h b : Nat} {w w' : World} (u : UpRow h b w w') (k o : Nat) (hk : k < h) (hb : k ≠ b) : w'.cell? ⟨k, o, none⟩ = w.cell? ⟨k, o, none⟩ :=
  World.cell?_of_block (w := w) (u.block k hk hb)
theorem UpRow.set {h b : Nat} {w w' : World} (u : UpRow h b w w') (o : Nat) (v : Value) : UpRow h b w (w'.setCell ⟨b, o, none⟩ v) :=
  ⟨u.os, u.tape, u.output, by rw [set_size]; exact u.size, fun k hk hb => (Below.heap_setCell _ _ _ _ hb).trans (u.block k hk hb)⟩
/-- A block and a row of the call's own, laid behind, are none that was there. -/
theorem UpRow.up {h b : Nat} {w w1 w2 : World} (u : Up w w1) (hb : w.heap.size ≤ b) (hh : b < h) (k : UpRow h b w1 w2) : Up w w2 :=
  ⟨k.os.trans (Below.os u), k.tape.trans (Below.tape u), k.output.trans (Below.output u), Nat.le_trans (Below.size u) k.size, fun i hi => (k.block i (by omega) (by omega)).trans (Below.block u i hi)⟩

theorem own_up {w w' : World} {base n k : Nat} {e : TypeId} {v : Value} {xs : List Value} (h : w.ownsRow base e k v n xs) (u : Up w w') : w'.ownsRow base e k v n xs := by
  refine ⟨h.1, ?_⟩
  rcases h.2 with hn | ⟨g, cap, cur, hv, hb, hg, hr⟩
  · exact .inl hn
  · exact .inr ⟨g, cap, cur, hv, hb, (u.heap g (Array.getElem?_eq_some_iff.1 hg).1).trans hg, hr⟩

def OutAt (w : World) (h O : Nat) (K : Int) (l : List Mono) (n : Nat) (a : Option Addr) (cap : Nat) : Prop :=
  n = l.length ∧ w.heap[O]? = some (.cells #[.int .i64 K, .slice a n cap] 24 (0, 0)) ∧ w.ownsRow h 31 2 (.slice a n cap) n (monoCells l) ∧ O < h ∧ h ≤ w.heap.size

theorem OutAt.up {w w' : World} {h O n : Nat} {K : Int} {l : List Mono} {a : Option Addr} {cap : Nat} (x : OutAt w h O K l n a cap) (u : Up w w') : OutAt w' h O K l n a cap := by
  obtain ⟨h1, h2, h3, h4, h5⟩ := x
  exact ⟨h1, (u.heap O (by omega)).trans h2, own_up h3 u, h4, Nat.le_trans h5 u.size⟩
theorem OutAt.cells {w : World} {h O n : Nat} {K : Int} {l : List Mono} {a : Option Addr} {cap : Nat} (x : OutAt w h O K l n a cap) :
    w.cell? ⟨O, 0, none⟩ = some (.int .i64 K) ∧ w.cell? ⟨O, 1, none⟩ = some (.slice a n cap) ∧ (∀ o, w.frozen? ⟨O, o, none⟩ = false) ∧ O < w.heap.size := by
  obtain ⟨h1, h2, h3, h4, h5⟩ := x
  exact ⟨cell_of_row _ _ _ _ _ _ h2, cell_of_row _ _ _ _ _ _ h2, fun o => frozen_of_row _ _ o _ _ h2, by omega⟩
theorem OutAt.monos {w : World} {h O n : Nat} {K : Int} {l : List Mono} {a : Option Addr} {cap : Nat} (x : OutAt w h O K l n a cap) (hn : n ≤ 9223372036854775807) : MonosAt w (.slice a n cap) l := by
  obtain ⟨h1, h2, h3, h4, h5⟩ := x
  subst h1
  exact SlAt.of_own h3 hn fun i j hi hj => monoCells_get l i j hi hj

/-- What stands behind an append of one monomial, ahead of the store. -/
theorem OutAt.key {w : World} {h O n : Nat} {K : Int} {l : List Mono} {a : Option Addr} {cap : Nat} (x : OutAt w h O K l n a cap) (s : ByteArray) (b : Int) (w1 : World)
    (hg : (w.alloc (.cells #[.string s, .int .i64 b] 31)).grownBy w1 (Value.slice a n cap).ownBlock) :
    w1.cell? ⟨O, 1, none⟩ = some (.slice a n cap) ∧ (∀ o, w1.frozen? ⟨O, o, none⟩ = false) ∧ Hid (w1.heap[O]? = some (.cells #[.int .i64 K, .slice a n cap] 24 (0, 0))) ∧ Hid (UpRow h O w w1) ∧ Hid (h ≤ w1.heap.size) := by
  obtain ⟨h1, h2, h3, h4, h5⟩ := x
  have hne : ∀ k, k < h → some k ≠ (Value.slice a n cap).ownBlock := fun k hk e => by have := (h3.lt k e.symm).1; omega
  have g0 := (hg.block O (by rw [size_alloc]; omega) (hne O h4)).trans ((Below.heap_alloc _ _ _ (by omega)).trans h2)
  have hs := hg.size
  rw [size_alloc] at hs
  exact ⟨cell_of_row _ _ _ _ _ _ g0, fun o => frozen_of_row _ _ o _ _ g0, Lib.hid g0, Lib.hid ⟨hg.os, hg.tape, hg.output, by omega, fun k hk _ => (hg.block k (by rw [size_alloc]; omega) (hne k hk)).trans (Below.heap_alloc _ _ _ (by omega))⟩, Lib.hid (by omega)⟩

theorem mono_sl (w : World) (s : ByteArray) (b : Int) : SlAt (w.alloc (.cells #[.string s, .int .i64 b] 31)) (.slice (some ⟨w.heap.size, 0, none⟩) 1 1) 1 2 (monoF [(s, b)]) := monos_one w _ s b
theorem mono_one (s : ByteArray) (b : Int) : ∀ i j, i < 1 → j < 2 → (monoF [(s, b)] i j).oneCell' = true := fun i j _ _ => by rcases j with _ | j <;> rfl
theorem mono_flat (s : ByteArray) (b : Int) : flat (monoF [(s, b)]) 1 2 = [.string s, .int .i64 b] := rfl

theorem OutAt.done {w w1 : World} {h O n : Nat} {K : Int} {l : List Mono} {a : Option Addr} {cap : Nat} (x : OutAt w h O K l n a cap) (s : ByteArray) (b : Int)
    (g0 : w1.heap[O]? = some (.cells #[.int .i64 K, .slice a n cap] 24 (0, 0))) (hu : UpRow h O w w1) (hz : h ≤ w1.heap.size) (va : Option Addr) (vc : Nat)
    (ho : w1.ownsRow h 31 2 (.slice va (n + 1) vc) (n + 1) (monoCells l ++ flat (monoF [(s, b)]) 1 2)) :
    OutAt (w1.setCell ⟨O, 1, none⟩ (.slice va (n + 1) vc)) h O K (l ++ [(s, b)]) (n + 1) va vc ∧ UpRow h O w (w1.setCell ⟨O, 1, none⟩ (.slice va (n + 1) vc)) := by
  obtain ⟨h1, h2, h3, h4, h5⟩ := x
  refine ⟨⟨by rw [List.length_append, h1]; rfl, ?_, ?_, h4, by rw [set_size]; exact hz⟩, hu.set 1 _⟩
  · simp [World.setCell, Array.getElem?_modify, g0]
  · rw [monoCells_snoc]
    exact ownsRow_setCell_below ho h4 _
end Go.Proofs.YtpclbgaaoednnaaDoor

