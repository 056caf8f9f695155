/-
  Add of the program's side: the closure that takes one name's coefficients.
-/
import Derived.Test.YtpclbgaaoednnaaDoorLinSc
namespace Go.Proofs.YtpclbgaaoednnaaDoor
set_option linter.unusedSimpArgs false
open Go.ChangeShapes Go.WideShapes Go.ChangeAt Go.RowKit
set_option linter.unusedVariables false

def stepA (acc : List Mono × Bool) (s : ByteArray) (x y : Int) : List Mono × Bool := (if wrap64 (x + y) = 0 then acc.1 else acc.1 ++ [(s, wrap64 (x + y))], acc.2 && fitB (x + y))

/-- What turns nothing below h but blocks b and c. -/
structure UpTwo (h b c : Nat) (w w' : World) : Prop where
  os : w'.os = w.os
  tape : w'.tape = w.tape
  output : w'.output = w.output
  size : w.heap.size ≤ w'.heap.size
  block : ∀ k, k < h → k ≠ b → k ≠ c → w'.heap[k]? = w.heap[k]?
theorem UpTwo.refl (h b c : Nat) (w : World) : UpTwo h b c w w := ⟨rfl, rfl, rfl, Nat.le_refl _, fun _ _ _ _ => rfl⟩
theorem UpTwo.trans {h b c : Nat} {x y z : World} (p : UpTwo h b c x y) (q : UpTwo h b c y z) : UpTwo h b c x z :=
  ⟨q.os.trans p.os, q.tape.trans p.tape, q.output.trans p.output, Nat.le_trans p.size q.size, fun k hk hb hc => (q.block k hk hb hc).trans (p.block k hk hb hc)⟩
theorem UpRow.two {h b c : Nat} {w w' : World} (u : UpRow h b w w') : UpTwo h b c w w' := ⟨u.os, u.tape, u.output, u.size, fun k hk hb _ => u.block k hk hb⟩
theorem UpTwo.setC {h b c : Nat} {w w' : World} (u : UpTwo h b c w w') (o : Nat) (v : Value) : UpTwo h b c w (w'.setCell ⟨c, o, none⟩ v) :=
  ⟨u.os, u.tape, u.output, by rw [set_size]; exact u.size, fun k hk hb hc => (Below.heap_setCell _ _ _ _ hc).trans (u.block k hk hb hc)⟩
theorem Up.two {w w' : World} (u : Up w w') {h b c : Nat} (hh : h ≤ w.heap.size) : UpTwo h b c w w' := ⟨Below.os u, Below.tape u, Below.output u, u.size, fun k hk _ _ => Below.block u k (by omega)⟩
theorem UpTwo.up {h b c : Nat} {w w1 w2 : World} (u : Up w w1) (hb : w.heap.size ≤ b) (hc : w.heap.size ≤ c) (hh : w.heap.size ≤ h) (k : UpTwo h b c w1 w2) : Up w w2 :=
  ⟨k.os.trans (Below.os u), k.tape.trans (Below.tape u), k.output.trans (Below.output u), Nat.le_trans (Below.size u) k.size, fun i hi => (k.block i (by omega) (by omega) (by omega)).trans (Below.block u i hi)⟩
theorem UpTwo.cell {h b c : Nat} {w w' : World} (u : UpTwo h b c w w') (k o : Nat) (hk : k < h) (hb : k ≠ b) (hc : k ≠ c) : w'.cell? ⟨k, o, none⟩ = w.cell? ⟨k, o, none⟩ :=
  World.cell?_of_block (w := w) (u.block k hk hb hc)

/-- The sum so far: the form in block O (its row from h on), whether all fits in block F. -/
def AddAt (w : World) (h O F : Nat) (K : Int) (r : List Mono × Bool) : Prop :=
  (∃ n a cap, OutAt w h O K r.1 n a cap) ∧ w.heap[F]? = some (.cells #[.bool r.2] 4 (0, 0)) ∧ F < h ∧ F ≠ O

theorem OutAt.setF {w : World} {h O n F : Nat} {K : Int} {l : List Mono} {a : Option Addr} {cap : Nat} (x : OutAt w h O K l n a cap) (hF : F < h) (hne : F ≠ O) (v : Value) : OutAt (w.setCell ⟨F, 0, none⟩ v) h O K l n a cap := by
  obtain ⟨h1, h2, h3, h4, h5⟩ := x
  exact ⟨h1, (Below.heap_setCell _ _ _ _ (Ne.symm hne)).trans h2, ownsRow_setCell_below h3 hF v, h4, by rw [set_size]; exact h5⟩
theorem AddAt.up {w w' : World} {h O F : Nat} {K : Int} {r : List Mono × Bool} (x : AddAt w h O F K r) (u : Up w w') : AddAt w' h O F K r := by
  obtain ⟨⟨n, a, cap, ho⟩, h2, h3, h4⟩ := x
  exact ⟨⟨n, a, cap, ho.up u⟩, (u.heap F (by have := ho.2.2.2.2; omega)).trans h2, h3, h4⟩

end Go.Proofs.YtpclbgaaoednnaaDoor

