/-
  Small general lemmas for the walks: endings, worlds that only grew ('Below' at the heap's own size), and regions that draw their order while their callees make memory. No program is named here.
-/
import Derived.WalkKit
import Derived.WalkSpells
import Derived.WalkLawsBesides
import Derived.ProofKit
import Derived.Outline
import Derived.OpenShut
import Derived.BigQuiet
import Derived.Below
import Derived.WalkSmall
import Derived.Deep.RegionWith
import Derived.Deep.DeepFit
import Derived.Lib.Hide
namespace Go.Proofs.YtbpojmhgifgfdaaDoor
set_option linter.unusedVariables false
set_option linter.unusedSimpArgs false
open Go.ChangeShapes Go.WideShapes Go.ChangeAt Go.RowKit

theorem ret_int {k : IntKind} {a b : Int} (h : a = b) : Ending.returned (.int k a) = .returned (.int k b) := by rw [h]
theorem ret_bool {a b : Bool} (h : a = b) : Ending.returned (.bool a) = .returned (.bool b) := by rw [h]

theorem ret_ii {k l : IntKind} {a b c d : Int} (h : a = c) (g : b = d) : Ending.returned (.tuple #[.int k a, .int l b]) = .returned (.tuple #[.int k c, .int l d]) := by rw [h, g]
theorem ret_ib {k : IntKind} {a c : Int} {b d : Bool} (h : a = c) (g : b = d) : Ending.returned (.tuple #[.int k a, .bool b]) = .returned (.tuple #[.int k c, .bool d]) := by rw [h, g]

/-- The world only grew: no block that was there has turned. -/
def Up (w w' : World) : Prop := Below w.heap.size w w'

theorem Up.refl (w : World) : Up w w := Below.refl _ _
theorem Up.size {w w' : World} (h : Up w w') : w.heap.size ≤ w'.heap.size := Below.size h
theorem Up.trans {a b c : World} (h : Up a b) (k : Up b c) : Up a c := Below.trans h (Below.mono k h.size)
theorem Up.drew {a w : World} (h : Up a w) : Up a w.drew := Below.drew h
theorem Up.drewN {a w : World} (n : Nat) (h : Up a w) : Up a (w.drewN n) := below_drewN h n
theorem Up.alloc {a w : World} (h : Up a w) (o : Obj) : Up a (w.alloc o) := Below.alloc h h.size o
theorem Up.setCell {a w : World} (h : Up a w) {p : Addr} (hp : a.heap.size ≤ p.block) (u : Value) : Up a (w.setCell p u) := Below.setCell h hp u
theorem Up.cell {w w' : World} (h : Up w w') (b o : Nat) (hb : b < w.heap.size) : w'.cell? ⟨b, o, none⟩ = w.cell? ⟨b, o, none⟩ := Below.cell (p := ⟨b, o, none⟩) h hb
theorem Up.frozen {w w' : World} (h : Up w w') (b o : Nat) (hb : b < w.heap.size) : w'.frozen? ⟨b, o, none⟩ = w.frozen? ⟨b, o, none⟩ := Below.frozen (p := ⟨b, o, none⟩) h hb
theorem Up.heap {w w' : World} (h : Up w w') (b : Nat) (hb : b < w.heap.size) : w'.heap[b]? = w.heap[b]? := Below.block h b hb
theorem Up.both {W w1 : World} (hb : Up W w1) : (∀ b o, b < W.heap.size → w1.cell? ⟨b, o, none⟩ = W.cell? ⟨b, o, none⟩) ∧ (∀ b o, b < W.heap.size → w1.frozen? ⟨b, o, none⟩ = W.frozen? ⟨b, o, none⟩) := ⟨hb.cell, hb.frozen⟩

/-- A world that only grew out of w. -/
def Ext (w : World) : Type := { x : World // Up w x }
instance (w : World) : Nonempty (Ext w) := ⟨⟨w, Up.refl w⟩⟩
def Ext.w {w : World} (i : Ext w) : World := i.1
theorem Ext.up {w : World} (i : Ext w) : Up w i.w := i.2
theorem Ext.cell_eq {w : World} (i : Ext w) (b o : Nat) (hb : b < w.heap.size) : i.w.cell? ⟨b, o, none⟩ = w.cell? ⟨b, o, none⟩ := i.up.cell b o hb
theorem Ext.frozen_eq {w : World} (i : Ext w) (b o : Nat) (hb : b < w.heap.size) : i.w.frozen? ⟨b, o, none⟩ = w.frozen? ⟨b, o, none⟩ := i.up.frozen b o hb
attribute [go_sem] Ext.cell_eq Ext.frozen_eq

/-- A region that draws its order, whose operations only read and whose callees only make memory: one walk in the text's order. -/
theorem wp_region_ext {P : Program} {id : Nat} {Q : Exit → Act → World → Prop} {a : Act} {w : World} {l : List Oper} (hm : P.follows .mixedOrders = true) (hB : Region.lexB .any l.toArray = true)
    (h : wpQuiet P l.toArray (fun x => ∃ i : Ext w, x = i.w) (fun a' => ∀ x, Up w x → Q .normal a' x) l a) : (Code.region id l.toArray true).wp P Q a w := by
  have e : (fun a' => ∀ x, Up w x → Q .normal a' x) = (fun a' => ∀ x, (∃ i : Ext w, x = i.w) → Q .normal a' x) := by
    funext a'
    exact propext ⟨fun H x ⟨i, hi⟩ => hi ▸ H i.w i.up, fun H x hx => H x ⟨⟨x, hx⟩, rfl⟩⟩
  rw [e] at h
  exact wp_region_quiet hm hB ⟨⟨{ w with drawn := w.drawn + 1 }, (Up.refl w).drew⟩, rfl⟩ h

/-- A callee's contract, met inside such a region. -/
theorem Calls.ext_of {P : Program} {f : FuncId} {args : Array Value} {w : World} {i : Ext w} {v : Value}
    (h : Calls P f args i.w fun e x => e = .returned v ∧ Up i.w x) : Calls P f args i.w fun e x => e = .returned v ∧ ∃ j : Ext w, x = j.w :=
  h.mono fun _ x ⟨he, hx⟩ => ⟨he, ⟨x, i.up.trans hx⟩, rfl⟩
end Go.Proofs.YtbpojmhgifgfdaaDoor
