/-
  Joined by a program: B, Sl, Nm, Nm2, Strs, Nm3, Lin0, Lin1, Lin2, But, LinI, M, LinP.
-/
import Derived.WalkKit
import Derived.WalkSpells
import Derived.WalkLawsBesides
import Derived.ProofKit
import Derived.Outline
import Derived.OpenShut
import Derived.BigQuiet
import Derived.Below
import Derived.WalkSmall
import Derived.Deep.RegionWith
import Derived.Deep.DeepFit
import Derived.Lib.Hide
import Derived.Maps.AppendAt
import Derived.Deep.AppendLies
import Derived.OwnWalk
import Derived.Laws.Rows
import Derived.OneCell
import Derived.Test.YtahlecmlhdikjaaDoorRows
import Derived.Laws.Strings
import Derived.Laws.Cover1
import Derived.Lib.Strings
import Derived.Laws.StructEq
import Derived.RowKit
import Derived.IntWalk
import Derived.Laws.Bits64
import Derived.Laws.BitsLemmas

section
namespace Go.Proofs.YtahlecmlhdikjaaDoor
set_option linter.unusedVariables false
set_option linter.unusedSimpArgs false
open Go.ChangeShapes Go.WideShapes Go.ChangeAt Go.RowKit

theorem ret_int {k : IntKind} {a b : Int} (h : a = b) : Ending.returned (.int k a) = .returned (.int k b) := by rw [h]
theorem ret_bool {a b : Bool} (h : a = b) : Ending.returned (.bool a) = .returned (.bool b) := by rw [h]

theorem ret_ii {k l : IntKind} {a b c d : Int} (h : a = c) (g : b = d) : Ending.returned (.tuple #[.int k a, .int l b]) = .returned (.tuple #[.int k c, .int l d]) := by rw [h, g]
theorem ret_ib {k : IntKind} {a c : Int} {b d : Bool} (h : a = c) (g : b = d) : Ending.returned (.tuple #[.int k a, .bool b]) = .returned (.tuple #[.int k c, .bool d]) := by rw [h, g]

/-- The world only grew: no block that was there has turned. -/
def Up (w w' : World) : Prop := Below w.heap.size w w'

theorem Up.refl (w : World) : Up w w := Below.refl _ _
theorem Up.size {w w' : World} (h : Up w w') : w.heap.size ≤ w'.heap.size := Below.size h
theorem Up.trans {a b c : World} (h : Up a b) (k : Up b c) : Up a c := Below.trans h (Below.mono k h.size)
theorem Up.drew {a w : World} (h : Up a w) : Up a w.drew := Below.drew h
theorem Up.drewN {a w : World} (n : Nat) (h : Up a w) : Up a (w.drewN n) := below_drewN h n
theorem Up.alloc {a w : World} (h : Up a w) (o : Obj) : Up a (w.alloc o) := Below.alloc h h.size o
theorem Up.setCell {a w : World} (h : Up a w) {p : Addr} (hp : a.heap.size ≤ p.block) (u : Value) : Up a (w.setCell p u) := Below.setCell h hp u
theorem Up.cell {w w' : World} (h : Up w w') (b o : Nat) (hb : b < w.heap.size) : w'.cell? ⟨b, o, none⟩ = w.cell? ⟨b, o, none⟩ := Below.cell (p := ⟨b, o, none⟩) h hb
theorem Up.frozen {w w' : World} (h : Up w w') (b o : Nat) (hb : b < w.heap.size) : w'.frozen? ⟨b, o, none⟩ = w.frozen? ⟨b, o, none⟩ := Below.frozen (p := ⟨b, o, none⟩) h hb
theorem Up.heap {w w' : World} (h : Up w w') (b : Nat) (hb : b < w.heap.size) : w'.heap[b]? = w.heap[b]? := Below.block h b hb
theorem Up.both {W w1 : World} (hb : Up W w1) : (∀ b o, b < W.heap.size → w1.cell? ⟨b, o, none⟩ = W.cell? ⟨b, o, none⟩) ∧ (∀ b o, b < W.heap.size → w1.frozen? ⟨b, o, none⟩ = W.frozen? ⟨b, o, none⟩) := ⟨hb.cell, hb.frozen⟩

/-- A world that only grew out of w. -/
def Ext (w : World) : Type := { x : World // Up w x }
instance (w : World) : Nonempty (Ext w) := ⟨⟨w, Up.refl w⟩⟩
def Ext.w {w : World} (i : Ext w) : World := i.1
theorem Ext.up {w : World} (i : Ext w) : Up w i.w := i.2
theorem Ext.cell_eq {w : World} (i : Ext w) (b o : Nat) (hb : b < w.heap.size) : i.w.cell? ⟨b, o, none⟩ = w.cell? ⟨b, o, none⟩ := i.up.cell b o hb
theorem Ext.frozen_eq {w : World} (i : Ext w) (b o : Nat) (hb : b < w.heap.size) : i.w.frozen? ⟨b, o, none⟩ = w.frozen? ⟨b, o, none⟩ := i.up.frozen b o hb
attribute [go_sem] Ext.cell_eq Ext.frozen_eq

/-- A region that draws its order, whose operations only read and whose callees only make memory: one walk in the text's order. -/
theorem wp_region_ext {P : Program} {id : Nat} {Q : Exit → Act → World → Prop} {a : Act} {w : World} {l : List Oper} (hm : P.follows .mixedOrders = true) (hB : Region.lexB .any l.toArray = true)
    (h : wpQuiet P l.toArray (fun x => ∃ i : Ext w, x = i.w) (fun a' => ∀ x, Up w x → Q .normal a' x) l a) : (Code.region id l.toArray true).wp P Q a w := by
  have e : (fun a' => ∀ x, Up w x → Q .normal a' x) = (fun a' => ∀ x, (∃ i : Ext w, x = i.w) → Q .normal a' x) := by
    funext a'
    exact propext ⟨fun H x ⟨i, hi⟩ => hi ▸ H i.w i.up, fun H x hx => H x ⟨⟨x, hx⟩, rfl⟩⟩
  rw [e] at h
  exact wp_region_quiet hm hB ⟨⟨{ w with drawn := w.drawn + 1 }, (Up.refl w).drew⟩, rfl⟩ h

/-- A callee's contract, met inside such a region. -/
theorem Calls.ext_of {P : Program} {f : FuncId} {args : Array Value} {w : World} {i : Ext w} {v : Value}
    (h : Calls P f args i.w fun e x => e = .returned v ∧ Up i.w x) : Calls P f args i.w fun e x => e = .returned v ∧ ∃ j : Ext w, x = j.w :=
  h.mono fun _ x ⟨he, hx⟩ => ⟨he, ⟨x, i.up.trans hx⟩, rfl⟩
end Go.Proofs.YtahlecmlhdikjaaDoor
end

section
namespace Go.Proofs.YtahlecmlhdikjaaDoor
set_option linter.unusedSimpArgs false
open Go.ChangeShapes Go.WideShapes Go.ChangeAt Go.RowKit
set_option linter.unusedVariables false

/-- A slice of structs of k one-cell fields that reads as f. -/
structure SlAt (w : World) (v : Value) (len k : Nat) (f : Nat → Nat → Value) : Prop where
  ex : ∃ (a : Option Addr) (cap : Nat), v = .slice a len cap ∧ (a = none → len = 0) ∧ ∀ x, a = some x → 0 < len → x.spot = none ∧ x.block < w.heap.size ∧ ∀ i j, i < len → j < k → w.cell? ⟨x.block, x.off + i * k + j, none⟩ = some (f i j)
  max : len ≤ 9223372036854775807

theorem SlAt.up {w w' : World} {v : Value} {len k : Nat} {f : Nat → Nat → Value} (h : SlAt w v len k f) (u : Up w w') : SlAt w' v len k f := by
  obtain ⟨⟨a, cap, hv, h0, h1⟩, h2⟩ := h
  refine ⟨⟨a, cap, hv, h0, fun x hx hl => ?_⟩, h2⟩
  obtain ⟨g1, g2, g3⟩ := h1 x hx hl
  exact ⟨g1, Nat.lt_of_lt_of_le g2 u.size, fun i j hi hj => (u.cell _ _ g2).trans (g3 i j hi hj)⟩

theorem SlAt.congr {w : World} {v : Value} {len k : Nat} {f g : Nat → Nat → Value} (h : SlAt w v len k f) (e : ∀ i j, i < len → j < k → f i j = g i j) : SlAt w v len k g := by
  obtain ⟨⟨a, cap, hv, h0, h1⟩, h2⟩ := h
  refine ⟨⟨a, cap, hv, h0, fun x hx hl => ?_⟩, h2⟩
  obtain ⟨g1, g2, g3⟩ := h1 x hx hl
  exact ⟨g1, g2, fun i j hi hj => by rw [← e i j hi hj]; exact g3 i j hi hj⟩

theorem SlAt.nil (w : World) (k : Nat) (f : Nat → Nat → Value) : SlAt w (.slice none 0 0) 0 k f := ⟨⟨none, 0, rfl, fun _ => rfl, fun x hx => nomatch hx⟩, by decide⟩

theorem add_lit_ne (b o k : Nat) : (⟨b, o, none⟩ : Addr).add k = ⟨b, o + k, none⟩ := by
  simp only [Addr.add]
  split
  · rename_i h; rw [h]; rfl
  · rfl

/-- All cells, in their order. -/
def flat (f : Nat → Nat → Value) (len k : Nat) : List Value := (List.range (len * k)).map fun q => f (q / k) (q % k)
theorem flat_length (f : Nat → Nat → Value) (len k : Nat) : (flat f len k).length = len * k := by simp [flat]
theorem flat_get (f : Nat → Nat → Value) (len k i j : Nat) (hi : i < len) (hj : j < k) : (flat f len k)[i * k + j]? = some (f i j) := by
  have hlt : i * k + j < len * k := by
    have : (i + 1) * k ≤ len * k := Nat.mul_le_mul_right k hi
    rw [Nat.add_mul] at this; omega
  unfold flat
  rw [List.getElem?_map, List.getElem?_range hlt]
  have hd : (i * k + j) / k = i := by rw [Nat.mul_comm, Nat.mul_add_div (by omega), Nat.div_eq_of_lt hj]; rfl
  have hm : (i * k + j) % k = j := by rw [Nat.mul_comm, Nat.mul_add_mod, Nat.mod_eq_of_lt hj]
  simp [hd, hm]
theorem flat_one (f : Nat → Nat → Value) (len : Nat) : flat f len 1 = (List.range len).map fun q => f q 0 := by
  simp only [flat, Nat.mul_one, Nat.div_one]
  refine List.map_congr_left fun a _ => ?_
  rw [Nat.mod_one]

theorem run_append_sl {P : Program} (w : World) (base : Nat) (t ty e : TypeId) (i : TypeInfo) (z : Value) (size bytes : Nat) (ht : P.underlying t = some (.slice e)) (hi : P.info? e = some i) (hz : i.zero = some z)
    (hsize : i.size = size) (hby : i.bytes = bytes) (hzs : z.cells.size = size) (hsz : 0 < size)
    (v : Value) (n : Nat) (xs : List Value) (hown : w.ownsRow base e size v n xs) (x : Value) (m : Nat) (f : Nat → Nat → Value) (hx : SlAt w x m size f) (h1 : ∀ i j, i < m → j < size → (f i j).oneCell' = true)
    (h63 : n + m ≤ maxLen) (hbytes : (n + m) * bytes ≤ 140737488355328) (hbase : base ≤ w.heap.size) :
    ∃ v' w', (Builtin.append_ #[t, t] ty #[v, x]).run P w = .ok v' w' ∧ w'.ownsRow base e size v' (n + m) (xs ++ flat f m size) ∧ w.grownBy w' v.ownBlock ∧ (v'.ownBlock = v.ownBlock ∨ v'.ownBlock = some w.heap.size) ∧ (v' = .slice none 0 0 → m = 0) := by
  obtain ⟨⟨a, cap, rfl, h0, hc⟩, hmax⟩ := hx
  by_cases hm : m = 0
  · subst hm
    have hf : flat f 0 size = [] := by simp [flat]
    rw [hf]
    cases a with
    | none =>
      have hrun : (Builtin.append_ #[t, t] ty #[v, .slice none 0 cap]).run P w = .ok v w := by
        rcases hown.2 with ⟨rfl, rfl⟩ | ⟨g, cap', cur, rfl, _, _, hnc, _⟩
        · simp [Builtin.append_, run_underlying ht, sizeOf, typeInfo, hi, Builtin.lenOf, Builtin.firstCells]
        · simp [Builtin.append_, run_underlying ht, sizeOf, typeInfo, hi, Builtin.lenOf, Builtin.firstCells, hnc, storeCells]
      exact ⟨v, w, hrun, by simpa using hown, World.grownBy.refl w _, .inl rfl, fun _ => rfl⟩
    | some ad =>
      obtain ⟨v', w', hrun, h2, h3, _, h5⟩ := run_append_own_at (P := P) w base t ty e i z size bytes ht hi hz hsize hby hzs hsz v n xs hown ad 0 cap [] (by simp) (by simp) (by simp) h63 hbytes hbase
      exact ⟨v', w', hrun, h2, h3, h5, fun _ => rfl⟩
  · cases a with
    | none => exact absurd (h0 rfl) hm
    | some ad =>
      obtain ⟨s1, s2, s3⟩ := hc ad rfl (by omega)
      obtain ⟨b, o, sp⟩ := ad
      have s1' : sp = none := s1
      subst s1'
      have key : ∀ q, q < m * size → w.cell? ⟨b, o + q, none⟩ = some (f (q / size) (q % size)) := fun q hq => by
        have hd : q / size < m := Nat.div_lt_of_lt_mul (by rw [Nat.mul_comm]; exact hq)
        have := s3 (q / size) (q % size) hd (Nat.mod_lt _ hsz)
        have he : q / size * size + q % size = q := by rw [Nat.mul_comm]; exact Nat.div_add_mod q size
        rw [← this]
        congr 2
        show o + q = o + q / size * size + q % size
        omega
      obtain ⟨v', w', hrun, h2, h3, h4, h5⟩ := run_append_own_at (P := P) w base t ty e i z size bytes ht hi hz hsize hby hzs hsz v n xs hown ⟨b, o, none⟩ m cap (flat f m size) (flat_length _ _ _)
        (fun q u hu => by
          rw [add_lit_ne]
          have hq : q < m * size := by
            have := (List.getElem?_eq_some_iff.1 hu).1
            rwa [flat_length] at this
          rw [key q hq]
          unfold flat at hu
          rw [List.getElem?_map, List.getElem?_range hq] at hu
          exact hu)
        (fun u hu => by
          unfold flat at hu
          obtain ⟨q, hq, rfl⟩ := List.mem_map.1 hu
          have hq' := List.mem_range.1 hq
          exact h1 _ _ (Nat.div_lt_of_lt_mul (by rw [Nat.mul_comm]; exact hq')) (Nat.mod_lt _ hsz))
        h63 hbytes hbase
      exact ⟨v', w', hrun, h2, h3, h5, fun e => (h4.1 e).2⟩

theorem wp_append_sl {P : Program} (w : World) {o : Oper} {a : Act} {K : Act → World → Prop} {Q : Exit → Act → World → Prop} (s x : Operand) (t : TypeId)
    (ho : o.op = .call { callee := .builtin .append, args := #[s, x], argTypes := #[t, t] })
    (base : Nat) (e : TypeId) (i : TypeInfo) (z : Value) (size bytes : Nat) (ht : P.underlying t = some (.slice e)) (hi : P.info? e = some i) (hz : i.zero = some z)
    (hsize : i.size = size) (hby : i.bytes = bytes) (hzs : z.cells.size = size) (hsz : 0 < size)
    (v : Value) (n : Nat) (xs : List Value) (hs : a.eval s = v) (hown : w.ownsRow base e size v n xs) (xv : Value) (m : Nat) (f : Nat → Nat → Value) (hxv : a.eval x = xv) (hx : SlAt w xv m size f) (h1 : ∀ i j, i < m → j < size → (f i j).oneCell' = true)
    (h63 : n + m ≤ maxLen) (hbytes : (n + m) * bytes ≤ 140737488355328) (hbase : base ≤ w.heap.size)
    (h : ∀ v' w', w'.ownsRow base e size v' (n + m) (xs ++ flat f m size) → w.grownBy w' v.ownBlock → (v'.ownBlock = v.ownBlock ∨ v'.ownBlock = some w.heap.size) → (v' = .slice none 0 0 → m = 0) → K (a.put o.dst v') w') : o.wp P a w K Q := by
  obtain ⟨v', w', hrun, h2, h3, h4, h5⟩ := run_append_sl (P := P) w base t o.type e i z size bytes ht hi hz hsize hby hzs hsz v n xs hown xv m f hx h1 h63 hbytes hbase
  unfold Oper.wp execOp
  simp only [ho, resolve, invoke, builtin, Sem.run_bind, Sem.run_pure, Result.andThen_ok, List.map_toArray, List.map_cons, List.map_nil, hs, hxv, hrun]
  exact h v' w' h2 h3 h4 h5

theorem wpList_append_sl {P : Program} (w : World) {ops : Array Oper} {rest : List Oper} {o : Oper} {a : Act} {Q : Exit → Act → World → Prop} (hgd : o.guard = none) (s x : Operand) (t : TypeId)
    (ho : o.op = .call { callee := .builtin .append, args := #[s, x], argTypes := #[t, t] })
    (base : Nat) (e : TypeId) (i : TypeInfo) (z : Value) (size bytes : Nat) (ht : P.underlying t = some (.slice e)) (hi : P.info? e = some i) (hz : i.zero = some z)
    (hsize : i.size = size) (hby : i.bytes = bytes) (hzs : z.cells.size = size) (hsz : 0 < size)
    (v : Value) (n : Nat) (xs : List Value) (hs : a.eval s = v) (hown : w.ownsRow base e size v n xs) (xv : Value) (m : Nat) (f : Nat → Nat → Value) (hxv : a.eval x = xv) (hx : SlAt w xv m size f) (h1 : ∀ i j, i < m → j < size → (f i j).oneCell' = true)
    (h63 : n + m ≤ maxLen) (hbytes : (n + m) * bytes ≤ 140737488355328) (hbase : base ≤ w.heap.size)
    (h : ∀ v' w', w'.ownsRow base e size v' (n + m) (xs ++ flat f m size) → w.grownBy w' v.ownBlock → (v'.ownBlock = v.ownBlock ∨ v'.ownBlock = some w.heap.size) → (v' = .slice none 0 0 → m = 0) → wpList P ops Q rest (a.put o.dst v') w') : wpList P ops Q (o :: rest) a w :=
  wpList_plain hgd fun _ hK => wp_append_sl w s x t ho base e i z size bytes ht hi hz hsize hby hzs hsz v n xs hs hown xv m f hxv hx h1 h63 hbytes hbase fun v' w' h2 h3 h4 h5 => hK _ _ (h v' w' h2 h3 h4 h5)

/-- A slice of the call's own reads as its list. -/
theorem SlAt.of_own {w : World} {base n k : Nat} {e : TypeId} {v : Value} {xs : List Value} {f : Nat → Nat → Value} (h : w.ownsRow base e k v n xs) (hn : n ≤ 9223372036854775807) (hf : ∀ i j, i < n → j < k → xs[i * k + j]? = some (f i j)) : SlAt w v n k f := by
  refine ⟨?_, hn⟩
  rcases h.2 with ⟨rfl, rfl⟩ | ⟨g, cap, cur, rfl, hb, hg, _⟩
  · exact ⟨none, 0, rfl, fun _ => rfl, fun x hx => nomatch hx⟩
  · refine ⟨some ⟨g, 0, none⟩, cap, rfl, (fun e => nomatch e), fun x hx hl => ?_⟩
    cases hx
    refine ⟨rfl, (Array.getElem?_eq_some_iff.1 hg).1, fun i j hi hj => ?_⟩
    have := h.cells (g := g) rfl _ _ (hf i j hi hj)
    rw [add_lit_ne] at this
    rw [← this]
    congr 2
    show 0 + i * k + j = 0 + (i * k + j)
    omega

theorem own_get {w : World} {base n k : Nat} {e : TypeId} {v : Value} {xs : List Value} (h : w.ownsRow base e k v n xs) (hn : 0 < n) :
    ∃ g cap, v = .slice (some ⟨g, 0, none⟩) n cap ∧ base ≤ g ∧ g < w.heap.size ∧ n ≤ cap ∧ (∀ o, w.frozen? ⟨g, o, none⟩ = false) ∧ ∀ q u, xs[q]? = some u → w.cell? ⟨g, q, none⟩ = some u := by
  rcases h.2 with ⟨_, h0⟩ | ⟨g, cap, cur, rfl, hb, hg, hnc, _⟩
  · omega
  · refine ⟨g, cap, rfl, hb, (Array.getElem?_eq_some_iff.1 hg).1, hnc, fun o => frozen_of_row _ _ _ _ _ hg, fun q u hq => ?_⟩
    have := h.cells (g := g) rfl _ _ hq
    rw [add_lit_ne] at this
    rw [← this]; simp

theorem own_slice {w : World} {base n k : Nat} {e : TypeId} {v : Value} {xs : List Value} (h : w.ownsRow base e k v n xs) : ∃ a cap, v = .slice a n cap := by
  rcases h.2 with ⟨rfl, rfl⟩ | ⟨g, cap, cur, rfl, _⟩
  · exact ⟨none, 0, rfl⟩
  · exact ⟨some ⟨g, 0, none⟩, cap, rfl⟩

/-- A store into a slice of the call's own. -/
theorem own_set {w : World} {base n k g cap : Nat} {e : TypeId} {xs : List Value} (h : w.ownsRow base e k (.slice (some ⟨g, 0, none⟩) n cap) n xs) (q : Nat) (hq : q < xs.length) (u : Value) :
    (w.setCell ⟨g, q, none⟩ u).ownsRow base e k (.slice (some ⟨g, 0, none⟩) n cap) n (xs.set q u) := by
  refine ⟨by rw [List.length_set]; exact h.1, ?_⟩
  rcases h.2 with ⟨hv, h0⟩ | ⟨g', cap', cur, hv, hb, hg, hnc, hcm, hcs, ht⟩
  · cases hv
  · cases hv
    have hqn : q < n * k := by rw [← h.1]; exact hq
    refine .inr ⟨g, cap, cur.setIfInBounds q u, rfl, hb, ?_, hnc, hcm, by simpa using hcs, ?_⟩
    · simp [World.setCell, Array.getElem?_modify, hg]
    · rw [← ht]
      simp [List.take_set]

theorem grown_up {w w' : World} {row : Option Nat} (h : w.grownBy w' row) (hr : ∀ k, row = some k → w.heap.size ≤ k) : Up w w' :=
  ⟨h.os, h.tape, h.output, h.size, fun i hi => h.block i hi (fun e => by have := hr i e.symm; omega)⟩
theorem Up.grown {w0 w w' : World} {row : Option Nat} (k : Up w0 w) (h : w.grownBy w' row) (hr : ∀ g, row = some g → w0.heap.size ≤ g) : Up w0 w' := Below.grown k h k.size hr
end Go.Proofs.YtahlecmlhdikjaaDoor
end

section
namespace Go.Proofs.YtahlecmlhdikjaaDoor
set_option linter.unusedSimpArgs false
open Go.ChangeShapes Go.WideShapes Go.ChangeAt Go.RowKit
set_option linter.unusedVariables false

def words : List (List UInt8) := [[115, 105, 122, 101], [119, 104, 101, 114, 101], [105, 110], [100, 101, 102], [111, 117, 116], [115, 117, 109], [112, 114, 111, 100], [109, 105, 110], [109, 97, 120], [115, 99, 97, 110], [111, 118, 101, 114], [105, 102], [99, 97, 115, 116], [102, 114, 97, 99], [105, 110, 116], [102, 105, 120], [99, 101, 105, 108], [102, 108, 111, 111, 114], [122, 101, 114, 111], [101, 118, 101, 110], [115, 97, 116], [119, 114, 97, 112]]
def wordB (s : List UInt8) : Bool := words.contains s
def fstOk (s : List UInt8) : Bool := decide (97 ≤ (s.getD 0 0).toNat) && decide ((s.getD 0 0).toNat ≤ 122)
def okC (c : UInt8) : Bool := (decide (97 ≤ c.toNat) && decide (c.toNat ≤ 122)) || (decide (48 ≤ c.toNat) && decide (c.toNat ≤ 57)) || decide (c.toNat = 95)
def nameB (s : List UInt8) : Bool := decide (1 ≤ s.length) && decide (s.length ≤ 16) && !wordB s && fstOk s && s.all okC

theorem run_byte {P : Program} (w : World) (t : TypeId) (s : ByteArray) (k c : Nat) (h : P.underlying t = some .string) (hk : k < s.size) (hc : (s.data.toList.getD k 0).toNat = c) :
    (Instr.index t (.string s) (.int .i64 (k : Int))).run P w = .ok (.int .u8 (c : Int)) w := by
  rw [run_index_string w t s _ _ h, dif_pos ⟨by omega, by omega⟩]
  congr 2
  rw [← hc]
  have hl : k < s.data.toList.length := by rw [← Lib.size_eq]; exact hk
  rw [List.getD_eq_getElem?_getD, List.getElem?_eq_getElem hl]
  show (((s[((k : Int)).toNat]'(_)).toNat : Nat) : Int) = _
  simp only [Int.toNat_natCast]
  rfl

set_option maxHeartbeats 2000000 in
theorem lin_reserved (s : ByteArray) (w : World) :
    Calls Tryd.prog 97 #[.string s] w fun e w' => e = .returned (.bool (wordB s.toList)) ∧ w' = w := by
  obtain ⟨l, hl⟩ : ∃ l, s.toList = l := ⟨_, rfl⟩
  rw [hl]
  go_enter Tryd.func97, Tryd.ntmps97
  go_wp2
  all_goals (go_ret; refine ⟨ret_bool ?_, rfl⟩; simp_all [wordB, words])
end Go.Proofs.YtahlecmlhdikjaaDoor
end

section
namespace Go.Proofs.YtahlecmlhdikjaaDoor
set_option linter.unusedSimpArgs false
open Go.ChangeShapes Go.WideShapes Go.ChangeAt Go.RowKit
set_option linter.unusedVariables false

theorem len_size (s : ByteArray) : s.data.toList.length = s.size := by cases s; rfl

theorem all_drop {l : List UInt8} {k : Nat} {p : UInt8 → Bool} (hk : k < l.length) : (l.drop k).all p = (p (l.getD k 0) && (l.drop (k + 1)).all p) := by
  rw [List.drop_eq_getElem_cons hk, List.all_cons, List.getD_eq_getElem?_getD, List.getElem?_eq_getElem hk]; rfl

set_option maxHeartbeats 2000000 in
theorem lin_identifier (s : ByteArray) (w : World) :
    Calls Tryd.prog 64 #[.string s] w fun e w' => e = .returned (.bool (nameB s.toList)) ∧ w' = w := by
  have hlen := len_size s
  obtain ⟨l, hl⟩ : ∃ l, s.data.toList = l := ⟨_, rfl⟩
  rw [hl] at hlen
  obtain ⟨r, hr⟩ : ∃ r, nameB s.toList = r := ⟨_, rfl⟩
  rw [hr]
  rw [Lib.toList_data, hl] at hr
  have hrs : ∀ w : World, Calls Tryd.prog 97 #[.string s] w fun e w' => e = .returned (.bool (wordB l)) ∧ w' = w := fun w => by
    rw [← hl, ← Lib.toList_data]; exact lin_reserved s w
  obtain ⟨rw', hrw⟩ : ∃ b, wordB l = b := ⟨_, rfl⟩
  rw [hrw] at hrs
  obtain ⟨n, hn⟩ : ∃ n, s.size = n := ⟨_, rfl⟩
  rw [hn] at hlen
  have HN := Lib.hid hn
  have HR := Lib.hid hr
  have HL := Lib.hid hl
  clear hr hl
  by_cases h0 : n < 1
  · have h1 : (n : Int) < 1 := by omega
    go_enter Tryd.func64, Tryd.ntmps64
    go_wp2
    go_ret
    refine ⟨ret_bool ?_, rfl⟩
    rw [← HR.out]
    have e1 : decide (1 ≤ l.length) = false := decide_eq_false (by omega)
    simp only [nameB, e1, Bool.false_and]
  have h1 : ¬ (n : Int) < 1 := by omega
  by_cases h2 : 16 < n
  · have h3 : (16 : Int) < n := by omega
    go_enter Tryd.func64, Tryd.ntmps64
    go_wp2
    go_ret
    refine ⟨ret_bool ?_, rfl⟩
    rw [← HR.out]
    have e1 : decide (l.length ≤ 16) = false := by simp; omega
    simp only [nameB, e1, Bool.and_false, Bool.false_and]
  have h3 : ¬ (16 : Int) < n := by omega
  have HRS := Lib.hid hrs
  have HW := Lib.hid hrw
  clear hrs hrw
  cases rw'
  case true =>
    go_enter Tryd.func64, Tryd.ntmps64
    go_wp2_with (go_at_call 97; refine (HRS.out _).mono ?_; rintro e x ⟨rfl, hx⟩; replace hx := hx.symm; subst hx)
    go_ret
    refine ⟨ret_bool ?_, rfl⟩
    rw [← HR.out]
    simp [nameB, HW.out]
  obtain ⟨c, hc⟩ : ∃ c, (l.getD 0 0).toNat = c := ⟨_, rfl⟩
  have hix := fun w => run_byte (P := Tryd.prog) w 9 s 0 c Tryd.underlying9 (by omega) (by rw [HL.out]; exact hc)
  simp only [Int.natCast_zero] at hix
  have HC := Lib.hid hc
  clear hc
  by_cases h4 : c < 97
  · have h5 : (c : Int) < 97 := by omega
    go_enter Tryd.func64, Tryd.ntmps64
    go_wp2_with (go_at_call 97; refine (HRS.out _).mono ?_; rintro e x ⟨rfl, hx⟩; replace hx := hx.symm; subst hx)
    go_ret
    refine ⟨ret_bool ?_, rfl⟩
    rw [← HR.out]
    have e1 : fstOk l = false := by unfold fstOk; rw [HC.out]; simp; omega
    simp only [nameB, e1, Bool.and_false, Bool.false_and]
  have h5 : ¬ (c : Int) < 97 := by omega
  by_cases h6 : 122 < c
  · have h7 : (122 : Int) < c := by omega
    go_enter Tryd.func64, Tryd.ntmps64
    go_wp2_with (go_at_call 97; refine (HRS.out _).mono ?_; rintro e x ⟨rfl, hx⟩; replace hx := hx.symm; subst hx)
    go_ret
    refine ⟨ret_bool ?_, rfl⟩
    rw [← HR.out]
    have e1 : fstOk l = false := by unfold fstOk; rw [HC.out]; simp; omega
    simp only [nameB, e1, Bool.and_false, Bool.false_and]
  have h7 : ¬ (122 : Int) < c := by omega
  have HA : Hid (l.all okC = r) := Lib.hid (by
    rw [← HR.out]
    have e1 : decide (1 ≤ l.length) = true := by simp; omega
    have e2 : decide (l.length ≤ 16) = true := by simp; omega
    have e3 : fstOk l = true := by unfold fstOk; rw [HC.out]; simp; omega
    simp [nameB, e1, e2, e3, HW.out])
  clear h0 h2 h4 h6
  go_enter Tryd.func64, Tryd.ntmps64
  go_wp2_with (go_at_call 97; refine (HRS.out _).mono ?_; rintro e x ⟨rfl, hx⟩; replace hx := hx.symm; subst hx)
  go_loopw [29] (fun i wr => ∃ k : Nat, k ≤ n ∧ i = .int .i64 k ∧ wr = w ∧ (l.drop k).all okC = r) (fun i _ => n - (intOf i).toNat)
  case atStart => exact ⟨0, by omega, rfl, rfl, by rw [List.drop_zero]; exact HA.out⟩
  case round =>
    obtain ⟨k, hk, rfl, rfl, hP⟩ := hrel
    have HP := Lib.hid hP
    clear hP
    by_cases hlt : k < n
    · have hlt2 : (k : Int) < (n : Int) := by omega
      have hk0 : (0 : Int) ≤ (k : Int) := by omega
      obtain ⟨d, hd⟩ : ∃ d, (l.getD k 0).toNat = d := ⟨_, rfl⟩
      have hix := fun w : World => run_byte (P := Tryd.prog) w 9 s k d Tryd.underlying9 (by omega) (by rw [HL.out]; exact hd)
      have HD := Lib.hid hd
      clear hd
      obtain ⟨q, hq⟩ : ∃ q, okC (l.getD k 0) = q := ⟨_, rfl⟩
      have HQ := Lib.hid hq
      clear hq
      have HP2 : Hid ((q && (l.drop (k + 1)).all okC) = r) := Lib.hid (by rw [← HP.out, all_drop (l := l) (k := k) (by omega), HQ.out])
      have hx : q = (decide (97 ≤ d) && decide (d ≤ 122) || decide (48 ≤ d) && decide (d ≤ 57) || decide (d = 95)) := by
        rw [← HQ.out, okC, HD.out]
      rcases (by omega : d < 48 ∨ (48 ≤ d ∧ d ≤ 57) ∨ (57 < d ∧ d < 97 ∧ d ≠ 95) ∨ d = 95 ∨ (97 ≤ d ∧ d ≤ 122) ∨ 122 < d) with h | h | h | h | h | h
      · obtain rfl : q = false := by rw [hx]; simp; omega
        clear hx HP HQ
        have f0 : (d : Int) < 97 := by omega
        have f1 : (d : Int) < 48 := by omega
        have f2 : ¬ (d : Int) = 95 := by omega
        go_wp2
        go_ret
        refine ⟨ret_bool ?_, rfl⟩
        have := HP2.out
        rw [← this]
        rfl
      · obtain rfl : q = true := by rw [hx]; simp; omega
        clear hx HP HQ
        have f0 : (d : Int) < 97 := by omega
        have f1 : (48 : Int) ≤ (d : Int) := by omega
        have f2 : (d : Int) ≤ 57 := by omega
        go_wp2
        go_roundw
        case rel => exact ⟨k + 1, by omega, by go_num, by trivial, by have := HP2.out; rw [← this]; rfl⟩
        case measure => simp [intOf]; omega
      · obtain rfl : q = false := by rw [hx]; simp; omega
        clear hx HP HQ
        have f0 : (d : Int) < 97 := by omega
        have f1 : (57 : Int) < (d : Int) := by omega
        have f2 : (48 : Int) ≤ (d : Int) := by omega
        have f3 : ¬ (d : Int) = 95 := by omega
        go_wp2
        go_ret
        refine ⟨ret_bool ?_, rfl⟩
        have := HP2.out
        rw [← this]
        rfl
      · obtain rfl : q = true := by rw [hx]; simp; omega
        clear hx HP HQ
        subst h
        go_wp2
        go_roundw
        case rel => exact ⟨k + 1, by omega, by go_num, by trivial, by have := HP2.out; rw [← this]; rfl⟩
        case measure => simp [intOf]; omega
      · obtain rfl : q = true := by rw [hx]; simp; omega
        clear hx HP HQ
        have f0 : (97 : Int) ≤ (d : Int) := by omega
        have f1 : (d : Int) ≤ 122 := by omega
        go_wp2
        go_roundw
        case rel => exact ⟨k + 1, by omega, by go_num, by trivial, by have := HP2.out; rw [← this]; rfl⟩
        case measure => simp [intOf]; omega
      · obtain rfl : q = false := by rw [hx]; simp; omega
        clear hx HP HQ
        have f0 : (122 : Int) < (d : Int) := by omega
        have f1 : (97 : Int) ≤ (d : Int) := by omega
        have f2 : (48 : Int) ≤ (d : Int) := by omega
        have f3 : (57 : Int) < (d : Int) := by omega
        have f4 : ¬ (d : Int) = 95 := by omega
        go_wp2
        go_ret
        refine ⟨ret_bool ?_, rfl⟩
        have := HP2.out
        rw [← this]
        rfl
    · have hlt2 : (n : Int) ≤ (k : Int) := by omega
      go_wp2
      go_ret
      refine ⟨ret_bool ?_, rfl⟩
      rw [← HP.out, List.drop_eq_nil_of_le (by omega)]
      rfl
end Go.Proofs.YtahlecmlhdikjaaDoor
end

section
namespace Go.Proofs.YtahlecmlhdikjaaDoor
set_option linter.unusedSimpArgs false
open Go.ChangeShapes Go.WideShapes Go.ChangeAt Go.RowKit
set_option linter.unusedVariables false

theorem SlAt.new (w : World) (t : TypeId) (cs : Array Value) (n k : Nat) (f : Nat → Nat → Value) (hn : n ≤ 9223372036854775807) (h : ∀ i j, i < n → j < k → cs[i * k + j]? = some (f i j)) :
    SlAt (w.alloc (.cells cs t)) (.slice (some ⟨w.heap.size, 0, none⟩) n n) n k f :=
  ⟨⟨some ⟨w.heap.size, 0, none⟩, n, rfl, (fun e => nomatch e), fun x hx _ => by
    cases hx
    refine ⟨rfl, by simp, fun i j hi hj => ?_⟩
    rw [cell_of_row _ _ _ _ _ _ (heap_alloc_new w _)]
    simp only [Nat.zero_add]
    exact h i j hi hj⟩, hn⟩

def strF (l : List ByteArray) (i _j : Nat) : Value := .string (l.getD i ⟨#[]⟩)
def StrsAt (w : World) (v : Value) (l : List ByteArray) : Prop := SlAt w v l.length 1 (strF l)

def hasB (l : List ByteArray) (s : List UInt8) : Bool := l.any fun x => x.toList == s

set_option maxHeartbeats 1000000 in
theorem base_Has (s : ByteArray) (l : List ByteArray) (v : Value) (w : World) (hv : StrsAt w v l) :
    Calls Tryd.prog 106 #[v, .string s] w fun e w' => e = .returned (.bool (hasB l s.toList)) ∧ w' = w := by
  obtain ⟨⟨a, cap, rfl, h0, hc⟩, hmax⟩ := hv
  obtain ⟨r, hr⟩ : ∃ r, hasB l s.toList = r := ⟨_, rfl⟩
  rw [hr]
  obtain ⟨sl, hsl⟩ : ∃ q, s.toList = q := ⟨_, rfl⟩
  rw [hsl] at hr
  obtain ⟨n, hn⟩ : ∃ n, l.length = n := ⟨_, rfl⟩
  rw [hn] at h0 hc hmax ⊢
  have HN := Lib.hid hn
  have HR := Lib.hid hr
  have HC := Lib.hid hc
  have H0 := Lib.hid h0
  clear hr hn hc h0
  go_enter Tryd.func106, Tryd.ntmps106
  go_wp2
  go_loopw [5] (fun i wr => ∃ k : Nat, k ≤ n ∧ i = .int .i64 k ∧ wr = w ∧ hasB (l.drop k) sl = r) (fun i _ => n - (intOf i).toNat)
  case atStart => exact ⟨0, by omega, rfl, rfl, by rw [List.drop_zero]; exact HR.out⟩
  case round =>
    obtain ⟨k, hk, rfl, hw, hP⟩ := hrel
    replace hw := hw.symm
    subst hw
    have HP := Lib.hid hP
    clear hP
    by_cases hlt : k < n
    · have hlt2 : (k : Int) < (n : Int) := by omega
      have hk0 : (0 : Int) ≤ (k : Int) := by omega
      obtain ⟨x, rfl⟩ : ∃ x, a = some x := by
        cases a with
        | none => exact absurd (H0.out rfl) (by omega)
        | some x => exact ⟨x, rfl⟩
      obtain ⟨g1, g2, g3⟩ := HC.out x rfl (by omega)
      obtain ⟨bl, off, sp⟩ := x
      have g1' : sp = none := g1
      subst g1'
      obtain ⟨u, hu⟩ : ∃ u, l.getD k ⟨#[]⟩ = u := ⟨_, rfl⟩
      have k0 : w.cell? ⟨bl, off + k, none⟩ = some (.string u) := by
        have := g3 k 0 hlt (by omega)
        simpa only [strF, hu, Nat.add_zero, Nat.mul_one] using this
      clear g3
      have hdrop : l.drop k = u :: l.drop (k + 1) := by
        have hkl : k < l.length := by rw [HN.out]; exact hlt
        rw [List.drop_eq_getElem_cons hkl, ← hu, List.getD_eq_getElem?_getD, List.getElem?_eq_getElem hkl]; rfl
      obtain ⟨q, hq⟩ : ∃ q, (u.toList == sl) = q := ⟨_, rfl⟩
      have HP2 : Hid ((q || hasB (l.drop (k + 1)) sl) = r) := Lib.hid (by rw [← HP.out, hdrop]; simp only [hasB, List.any_cons, hq])
      clear hdrop hu
      cases q
      · have hq2 : ¬ u.toList = sl := by simpa using hq
        go_wp2
        go_roundw
        case rel => exact ⟨k + 1, by omega, by go_num, by trivial, by have := HP2.out; rw [← this]; rfl⟩
        case measure => simp [intOf]; omega
      · have hq2 : u.toList = sl := by simpa using hq
        go_wp2
        go_ret
        refine ⟨ret_bool ?_, rfl⟩
        have := HP2.out; rw [← this]; rfl
    · have hlt2 : (n : Int) ≤ (k : Int) := by omega
      go_wp2
      go_ret
      refine ⟨ret_bool ?_, rfl⟩
      rw [← HP.out, List.drop_eq_nil_of_le (by rw [HN.out]; omega)]
      rfl

def wordsS : List ByteArray := words.map fun l => ⟨l.toArray⟩
theorem beq_swap (a b : List UInt8) : (a == b) = (b == a) := Bool.eq_iff_iff.2 (by rw [beq_iff_eq, beq_iff_eq]; exact eq_comm)
theorem words_has (s : List UInt8) : hasB wordsS s = wordB s := by
  unfold hasB wordsS wordB
  rw [List.any_map, List.contains_eq_any_beq]
  congr 1
  funext l
  show ((⟨l.toArray⟩ : ByteArray).toList == s) = (s == l)
  rw [ByteArray.toList_mk, beq_swap]

set_option maxHeartbeats 1000000 in
theorem base_Words (w : World) :
    Calls Tryd.prog 107 #[] w fun e w' => ∃ v, e = .returned v ∧ StrsAt w' v wordsS ∧ Up w w' := by
  go_enter Tryd.func107, Tryd.ntmps107
  go_wp2
  go_ret
  refine ⟨_, rfl, ?_, (Up.refl _).alloc _⟩
  refine SlAt.new w _ _ 22 1 (strF wordsS) (by decide) fun i j hi hj => ?_
  obtain rfl : j = 0 := by omega
  rcases (by omega : i = 0 ∨ i = 1 ∨ i = 2 ∨ i = 3 ∨ i = 4 ∨ i = 5 ∨ i = 6 ∨ i = 7 ∨ i = 8 ∨ i = 9 ∨ i = 10 ∨ i = 11 ∨ i = 12 ∨ i = 13 ∨ i = 14 ∨ i = 15 ∨ i = 16 ∨ i = 17 ∨ i = 18 ∨ i = 19 ∨ i = 20 ∨ i = 21) with rfl | rfl | rfl | rfl | rfl | rfl | rfl | rfl | rfl | rfl | rfl | rfl | rfl | rfl | rfl | rfl | rfl | rfl | rfl | rfl | rfl | rfl <;> rfl
end Go.Proofs.YtahlecmlhdikjaaDoor
end

section
namespace Go.Proofs.YtahlecmlhdikjaaDoor
set_option linter.unusedSimpArgs false
open Go.ChangeShapes Go.WideShapes Go.ChangeAt Go.RowKit
set_option linter.unusedVariables false

def fromK (l : List UInt8) (k : Nat) : Bool := if k = 0 then fstOk l && l.all okC else (l.drop k).all okC

set_option maxHeartbeats 2000000 in
theorem base_Name (s : ByteArray) (w : World) :
    Calls Tryd.prog 96 #[.string s] w fun e w' => e = .returned (.bool (nameB s.toList)) ∧ Up w w' := by
  have hlen := len_size s
  obtain ⟨l, hl⟩ : ∃ l, s.data.toList = l := ⟨_, rfl⟩
  rw [hl] at hlen
  obtain ⟨r, hr⟩ : ∃ r, nameB s.toList = r := ⟨_, rfl⟩
  rw [hr]
  rw [Lib.toList_data, hl] at hr
  obtain ⟨q, hq⟩ : ∃ b, wordB l = b := ⟨_, rfl⟩
  have hrs : ∀ (w : World) (v : Value), StrsAt w v wordsS → Calls Tryd.prog 106 #[v, .string s] w fun e w' => e = .returned (.bool q) ∧ w' = w := fun w v hv => by
    have := base_Has s wordsS v w hv
    rw [words_has, Lib.toList_data, hl, hq] at this
    exact this
  obtain ⟨n, hn⟩ : ∃ n, s.size = n := ⟨_, rfl⟩
  rw [hn] at hlen
  have HN := Lib.hid hn
  have HR := Lib.hid hr
  have HL := Lib.hid hl
  have HRS := Lib.hid hrs
  have HQ := Lib.hid hq
  clear hr hl hrs hq
  by_cases h0 : n < 1
  · have h1 : (n : Int) < 1 := by omega
    go_enter Tryd.func96, Tryd.ntmps96
    go_wp2
    go_ret
    refine ⟨ret_bool ?_, Up.refl _⟩
    rw [← HR.out]
    have e1 : decide (1 ≤ l.length) = false := decide_eq_false (by omega)
    simp only [nameB, e1, Bool.false_and]
  have h1 : ¬ (n : Int) < 1 := by omega
  by_cases h2 : 16 < n
  · have h3 : (16 : Int) < n := by omega
    go_enter Tryd.func96, Tryd.ntmps96
    go_wp2
    go_ret
    refine ⟨ret_bool ?_, Up.refl _⟩
    rw [← HR.out]
    have e1 : decide (l.length ≤ 16) = false := by simp; omega
    simp only [nameB, e1, Bool.and_false, Bool.false_and]
  have h3 : ¬ (16 : Int) < n := by omega
  go_enter Tryd.func96, Tryd.ntmps96
  go_wp2_with fail
  refine (base_Words _).mono ?_
  rintro e x1 ⟨v, rfl, hv, hx1⟩
  go_wp2_with fail
  refine (HRS.out _ _ hv).mono ?_
  rintro e x2 ⟨rfl, hx2⟩
  replace hx2 := hx2.symm
  subst hx2
  clear hv
  cases q
  case true =>
    go_wp2
    go_ret
    refine ⟨ret_bool ?_, hx1⟩
    rw [← HR.out]
    simp [nameB, HQ.out]
  have HA : Hid (fromK l 0 = r) := Lib.hid (by
    rw [← HR.out]
    have e1 : decide (1 ≤ l.length) = true := by simp; omega
    have e2 : decide (l.length ≤ 16) = true := by simp; omega
    simp [nameB, fromK, e1, e2, HQ.out])
  clear h0 h2
  go_wp2
  go_loopw [3] (fun i wr => ∃ k : Nat, k ≤ n ∧ i = .int .i64 k ∧ wr = x1 ∧ fromK l k = r) (fun i _ => n - (intOf i).toNat)
  case atStart => exact ⟨0, by omega, rfl, rfl, HA.out⟩
  case round =>
    obtain ⟨k, hk, rfl, hw, hP⟩ := hrel
    replace hw := hw.symm
    subst hw
    have HP := Lib.hid hP
    clear hP
    by_cases hlt : k < n
    · have hlt2 : (k : Int) < (n : Int) := by omega
      have hk0 : (0 : Int) ≤ (k : Int) := by omega
      obtain ⟨d, hd⟩ : ∃ d, (l.getD k 0).toNat = d := ⟨_, rfl⟩
      have hix := fun w : World => run_byte (P := Tryd.prog) w 9 s k d Tryd.underlying9 (by omega) (by rw [HL.out]; exact hd)
      have HD := Lib.hid hd
      clear hd
      obtain ⟨q, hq⟩ : ∃ q, okC (l.getD k 0) = q := ⟨_, rfl⟩
      have HQ2 := Lib.hid hq
      clear hq
      have hx : q = (decide (97 ≤ d) && decide (d ≤ 122) || decide (48 ≤ d) && decide (d ≤ 57) || decide (d = 95)) := by
        rw [← HQ2.out, okC, HD.out]
      by_cases hlow : 97 ≤ d ∧ d ≤ 122
      · obtain rfl : q = true := by rw [hx]; simp; omega
        have HP2 : Hid (fromK l (k + 1) = r) := Lib.hid (by
          rw [← HP.out]
          unfold fromK
          rw [if_neg (by omega)]
          by_cases hk00 : k = 0
          · subst hk00
            rw [if_pos rfl]
            have e3 : fstOk l = true := by unfold fstOk; rw [HD.out]; simp; omega
            have := all_drop (l := l) (k := 0) (p := okC) (by omega)
            rw [List.drop_zero] at this
            rw [this, HQ2.out, e3]; rfl
          · rw [if_neg hk00, all_drop (l := l) (k := k) (by omega), HQ2.out]; rfl)
        clear hx HP HQ2
        have f0 : (97 : Int) ≤ (d : Int) := by omega
        have f1 : (d : Int) ≤ 122 := by omega
        go_wp2
        go_roundw
        case rel => exact ⟨k + 1, by omega, by go_num, by trivial, HP2.out⟩
        case measure => simp [intOf]; omega
      · by_cases hk00 : k = 0
        · subst hk00
          have HP2 : Hid (false = r) := Lib.hid (by
            rw [← HP.out]
            unfold fromK
            rw [if_pos rfl]
            have e3 : fstOk l = false := by unfold fstOk; rw [HD.out]; simp; omega
            rw [e3]; rfl)
          clear hx HP HQ2
          simp only [Int.natCast_zero] at hix
          rcases (by omega : d < 97 ∨ (97 ≤ d ∧ 122 < d)) with h | h
          · have f0 : (d : Int) < 97 := by omega
            go_wp2
            go_ret
            exact ⟨ret_bool HP2.out, hx1⟩
          · have f0 : (97 : Int) ≤ (d : Int) := by omega
            have f1 : ¬ (d : Int) ≤ 122 := by omega
            have f2 : decide ((d : Int) ≤ 122) = false := decide_eq_false f1
            go_wp2
            go_ret
            exact ⟨ret_bool HP2.out, hx1⟩
        · have hkp : (0 : Int) < (k : Int) := by omega
          have HP2 : Hid ((q && fromK l (k + 1)) = r) := Lib.hid (by
            rw [← HP.out]
            unfold fromK
            rw [if_neg (by omega), if_neg hk00, all_drop (l := l) (k := k) (by omega), HQ2.out])
          clear HP HQ2
          rcases (by omega : d < 48 ∨ (48 ≤ d ∧ d ≤ 57) ∨ (57 < d ∧ d < 97 ∧ d ≠ 95) ∨ d = 95 ∨ 122 < d) with h | h | h | h | h
          · obtain rfl : q = false := by rw [hx]; simp; omega
            clear hx
            have f0 : (d : Int) < 97 := by omega
            have f1 : (d : Int) < 48 := by omega
            have f2 : ((d : Int) == 95) = false := by simp; omega
            go_wp2
            go_ret
            exact ⟨ret_bool (by have := HP2.out; rw [← this]; rfl), hx1⟩
          · obtain rfl : q = true := by rw [hx]; simp; omega
            clear hx
            have f0 : (d : Int) < 97 := by omega
            have f1 : (48 : Int) ≤ (d : Int) := by omega
            have f2 : (d : Int) ≤ 57 := by omega
            go_wp2
            go_roundw
            case rel => exact ⟨k + 1, by omega, by go_num, by trivial, by have := HP2.out; rw [← this]; rfl⟩
            case measure => simp [intOf]; omega
          · obtain rfl : q = false := by rw [hx]; simp; omega
            clear hx
            have f0 : (d : Int) < 97 := by omega
            have f1 : (48 : Int) ≤ (d : Int) := by omega
            have f2 : ¬ (d : Int) ≤ 57 := by omega
            have f5 : decide ((d : Int) ≤ 57) = false := decide_eq_false f2
            have f3 : ((d : Int) == 95) = false := by simp; omega
            go_wp2
            go_ret
            exact ⟨ret_bool (by have := HP2.out; rw [← this]; rfl), hx1⟩
          · obtain rfl : q = true := by rw [hx]; simp; omega
            clear hx
            subst h
            go_wp2
            go_roundw
            case rel => exact ⟨k + 1, by omega, by go_num, by trivial, by have := HP2.out; rw [← this]; rfl⟩
            case measure => simp [intOf]; omega
          · obtain rfl : q = false := by rw [hx]; simp; omega
            clear hx
            have f0 : (97 : Int) ≤ (d : Int) := by omega
            have f1 : ¬ (d : Int) ≤ 122 := by omega
            have f8 : decide ((d : Int) ≤ 122) = false := decide_eq_false f1
            have f4 : (48 : Int) ≤ (d : Int) := by omega
            have f7 : ¬ (d : Int) ≤ 57 := by omega
            have f6 : decide ((d : Int) ≤ 57) = false := decide_eq_false f7
            have f2 : ((d : Int) == 95) = false := by simp; omega
            go_wp2
            go_ret
            exact ⟨ret_bool (by have := HP2.out; rw [← this]; rfl), hx1⟩
    · have hlt2 : (n : Int) ≤ (k : Int) := by omega
      go_wp2
      go_ret
      refine ⟨ret_bool ?_, hx1⟩
      rw [← HP.out]
      unfold fromK
      rw [if_neg (by omega), List.drop_eq_nil_of_le (by omega)]
      rfl
end Go.Proofs.YtahlecmlhdikjaaDoor
end

section
namespace Go.Proofs.YtahlecmlhdikjaaDoor
set_option linter.unusedSimpArgs false
open Go.ChangeShapes Go.WideShapes Go.ChangeAt Go.RowKit
set_option linter.unusedVariables false

abbrev Mono := ByteArray × Int
abbrev m0 : Mono := (⟨#[]⟩, 0)
def monoF (l : List Mono) (i j : Nat) : Value := match j with
  | 0 => .string (l.getD i m0).1
  | _ => .int .i64 (l.getD i m0).2
def MonosAt (w : World) (v : Value) (l : List Mono) : Prop := SlAt w v l.length 2 (monoF l)
def prevOk (p : Option (List UInt8)) (s : List UInt8) : Bool := match p with
  | none => true
  | some q => Op.bytesLess q s
def okFrom : Option (List UInt8) → List Mono → Bool
  | _, [] => true
  | p, (s, b) :: r => nameB s.toList && decide (b ≠ 0) && prevOk p s.toList && okFrom (some s.toList) r
def okL (l : List Mono) : Bool := okFrom none l
def prevAt (l : List Mono) (k : Nat) : Option (List UInt8) := match k with
  | 0 => none
  | j + 1 => some (l.getD j m0).1.toList
def errOf (b : Bool) : Int := if b then 0 else 1

theorem size_alloc (x : World) (o : Obj) : (x.alloc o).heap.size = x.heap.size + 1 := by simp

theorem mono_at {w : World} {l : List Mono} {bl off k : Nat} (n : Nat) (g3 : ∀ i j, i < n → j < 2 → w.cell? ⟨bl, off + i * 2 + j, none⟩ = some (monoF l i j)) (hk : k < n) {s : ByteArray} {b : Int} (h : l.getD k m0 = (s, b)) :
    w.cell? ⟨bl, off + k * 2, none⟩ = some (.string s) ∧ w.cell? ⟨bl, off + k * 2 + 1, none⟩ = some (.int .i64 b) := by
  have a0 := g3 k 0 hk (by omega)
  have a1 := g3 k 1 hk (by omega)
  simp only [monoF, h, Nat.add_zero] at a0 a1
  exact ⟨a0, a1⟩
theorem drop_mono {l : List Mono} {k : Nat} (hk : k < l.length) {m : Mono} (h : l.getD k m0 = m) : l.drop k = m :: l.drop (k + 1) := by
  rw [List.drop_eq_getElem_cons hk, ← h, List.getD_eq_getElem?_getD, List.getElem?_eq_getElem hk]; rfl

set_option maxHeartbeats 4000000 in
theorem lin_Validate (K : Int) (v : Value) (l : List Mono) (w : World) (hv : MonosAt w v l) :
    Calls Tryd.prog 45 #[.agg #[.int .i64 K, v]] w fun e w' => e = .returned (.int .i64 (errOf (okL l))) ∧ Up w w' := by
  obtain ⟨⟨a, cap, rfl, h0, hc⟩, hmax⟩ := hv
  obtain ⟨r, hr⟩ : ∃ r, okL l = r := ⟨_, rfl⟩
  rw [hr]
  obtain ⟨n, hn⟩ : ∃ n, l.length = n := ⟨_, rfl⟩
  rw [hn] at h0 hc hmax ⊢
  have HN := Lib.hid hn
  have HR := Lib.hid hr
  have HC := Lib.hid hc
  have H0 := Lib.hid h0
  clear hr hn hc h0
  go_enter Tryd.func45, Tryd.ntmps45
  go_wp2
  obtain ⟨W1, hW1⟩ : ∃ W1, w.alloc (.cells #[.int .i64 K, .slice a n cap] 24) = W1 := ⟨_, rfl⟩
  rw [hW1]
  have HU1 : Hid (Up w W1) := Lib.hid (hW1 ▸ (Up.refl w).alloc _)
  obtain ⟨B, hB⟩ : ∃ B, w.heap.size = B := ⟨_, rfl⟩
  have hrow : W1.heap[B]? = some (.cells #[.int .i64 K, .slice a n cap] 24 (0, 0)) := by
    rw [← hW1, ← hB]; exact heap_alloc_new w _
  have hsz1 : W1.heap.size = B + 1 := by rw [← hW1, size_alloc, hB]
  have HROW := Lib.hid hrow
  clear hrow hW1
  rw [hB]
  have HB := Lib.hid hB
  clear hB
  go_loopw [8] (fun i wr => ∃ k : Nat, k ≤ n ∧ i = .int .i64 k ∧ Up W1 wr ∧ okFrom (prevAt l k) (l.drop k) = r) (fun i _ => n - (intOf i).toNat)
  case atStart => exact ⟨0, by omega, rfl, Up.refl _, by rw [List.drop_zero]; exact HR.out⟩
  case round =>
    rename_i wr
    obtain ⟨k, hk, rfl, hU, hP⟩ := hrel
    have HP := Lib.hid hP
    clear hP
    have hU2 := HU1.out.trans hU
    by_cases hlt : k < n
    · have hlt2 : (k : Int) < (n : Int) := by omega
      have hk0 : (0 : Int) ≤ (k : Int) := by omega
      obtain ⟨x, rfl⟩ : ∃ x, a = some x := by
        cases a with
        | none => exact absurd (H0.out rfl) (by omega)
        | some x => exact ⟨x, rfl⟩
      obtain ⟨g1, g2, g3⟩ := HC.out x rfl (by omega)
      obtain ⟨bl, off, sp⟩ := x
      have g1' : sp = none := g1
      subst g1'
      obtain ⟨s, b, hm⟩ : ∃ s b, l.getD k m0 = (s, b) := ⟨_, _, rfl⟩
      have g4 : ∀ i j, i < n → j < 2 → wr.cell? ⟨bl, off + i * 2 + j, none⟩ = some (monoF l i j) := fun i j hi hj => (hU2.cell _ _ g2).trans (g3 i j hi hj)
      obtain ⟨c0, c1⟩ := mono_at n g4 hlt hm
      have hs1 := hU.size
      have hs2 := hU2.size
      have d1 : wr.cell? ⟨B, 1, none⟩ = some (.slice (some ⟨bl, off, none⟩) n cap) := (hU.cell _ _ (by omega)).trans (cell_of_row _ _ _ _ _ _ HROW.out)
      have g2' : bl < w.heap.size := g2
      have q1 : bl < wr.heap.size := by omega
      have q2 : B < wr.heap.size := by omega
      have q3 : bl < wr.heap.size + 1 := by omega
      have q4 : B < wr.heap.size + 1 := by omega
      have q5 : wr.heap.size < wr.heap.size + 1 := by omega
      have hdrop := drop_mono (by rw [HN.out]; exact hlt) hm
      have HM := Lib.hid hm
      have G4 := Lib.hid g4
      clear g3 hm g4 g2 g2'
      have HP1 : Hid ((nameB s.toList && decide (b ≠ 0) && prevOk (prevAt l k) s.toList && okFrom (some s.toList) (l.drop (k + 1))) = r) := Lib.hid (by rw [← HP.out, hdrop]; rfl)
      clear hdrop
      obtain ⟨nb, hnb⟩ : ∃ q, nameB s.toList = q := ⟨_, rfl⟩
      rw [hnb] at HP1
      have HID : Hid (∀ w : World, Calls Tryd.prog 64 #[.string s] w fun e w' => e = .returned (.bool nb) ∧ Up w w') := Lib.hid fun w => by
        rw [← hnb]
        exact (lin_identifier s w).mono fun e w' ⟨h1, h2⟩ => ⟨h1, h2 ▸ Up.refl _⟩
      clear hnb HP
      cases nb
      · have HF : Hid (false = r) := Lib.hid (by rw [← HP1.out]; rfl)
        go_wp2_with fail
        refine wp_region_ext (by kernel_rfl) (by kernel_rfl) ?_
        repeat (go_big_quiet_step ((go_at_call 64; exact Calls.ext_of (HID.out _))))
        refine wpQuiet_nil ?_
        intro x hx
        go_wp2
        go_ret
        exact ⟨ret_int (by rw [← HF.out]; rfl), (hU2.alloc _).trans hx⟩
      by_cases hb : b = 0
      · subst hb
        have HF : Hid (false = r) := Lib.hid (by rw [← HP1.out]; rfl)
        go_wp2_with fail
        refine wp_region_ext (by kernel_rfl) (by kernel_rfl) ?_
        repeat (go_big_quiet_step ((go_at_call 64; exact Calls.ext_of (HID.out _))))
        refine wpQuiet_nil ?_
        intro x hx
        go_wp2
        go_ret
        exact ⟨ret_int (by rw [← HF.out]; rfl), (hU2.alloc _).trans hx⟩
      have hb2 : (b == 0) = false := by simpa using hb
      have HP2 : Hid ((prevOk (prevAt l k) s.toList && okFrom (some s.toList) (l.drop (k + 1))) = r) := Lib.hid (by
        rw [← HP1.out]
        simp [hb])
      clear HP1
      cases k with
      | zero =>
        simp only [Nat.zero_mul, Nat.add_zero] at c0 c1
        have HG : Hid (okFrom (prevAt l (0 + 1)) (l.drop (0 + 1)) = r) := Lib.hid (by
          rw [← HP2.out]
          show okFrom (some (l.getD 0 m0).1.toList) _ = _
          rw [HM.out]; rfl)
        clear HP2
        go_wp2_with fail
        refine wp_region_ext (by kernel_rfl) (by kernel_rfl) ?_
        repeat (go_big_quiet_step ((go_at_call 64; exact Calls.ext_of (HID.out _))))
        refine wpQuiet_nil ?_
        intro x hx
        go_wp2
        go_roundw
        case rel => exact ⟨0 + 1, by omega, by go_num, (hU.alloc _).trans hx, HG.out⟩
        case measure => simp [intOf]; omega
      | succ j =>
        obtain ⟨s', b', hm'⟩ : ∃ s b, l.getD j m0 = (s, b) := ⟨_, _, rfl⟩
        obtain ⟨c2, c3⟩ := mono_at n G4.out (by omega : j < n) hm'
        obtain ⟨q, hq⟩ : ∃ q, Op.bytesLess s'.toList s.toList = q := ⟨_, rfl⟩
        have HP3 : Hid ((q && okFrom (some s.toList) (l.drop (j + 1 + 1))) = r) := Lib.hid (by
          rw [← HP2.out]
          show _ = (Op.bytesLess (l.getD j m0).1.toList s.toList && _)
          rw [hm', hq])
        have hkp : (0 : Int) < ((j + 1 : Nat) : Int) := by omega
        have hkm : ((j + 1 : Nat) : Int) - 1 = (j : Int) := by omega
        have hj0 : (0 : Int) ≤ (j : Int) := by omega
        have hjn : (j : Int) < (n : Int) := by omega
        clear HP2 hm'
        cases q
        · have HF : Hid (false = r) := Lib.hid (by rw [← HP3.out]; rfl)
          go_wp2_with fail
          refine wp_region_ext (by kernel_rfl) (by kernel_rfl) ?_
          repeat (go_big_quiet_step ((go_at_call 64; exact Calls.ext_of (HID.out _))))
          refine wpQuiet_nil ?_
          intro x hx
          go_wp2
          go_ret
          exact ⟨ret_int (by rw [← HF.out]; rfl), (hU2.alloc _).trans hx⟩
        · have HG : Hid (okFrom (prevAt l (j + 1 + 1)) (l.drop (j + 1 + 1)) = r) := Lib.hid (by
            rw [← HP3.out]
            show okFrom (some (l.getD (j + 1) m0).1.toList) _ = _
            rw [HM.out]; rfl)
          clear HP3
          go_wp2_with fail
          refine wp_region_ext (by kernel_rfl) (by kernel_rfl) ?_
          repeat (go_big_quiet_step ((go_at_call 64; exact Calls.ext_of (HID.out _))))
          refine wpQuiet_nil ?_
          intro x hx
          go_wp2
          go_roundw
          case rel => exact ⟨j + 1 + 1, by omega, by go_num, (hU.alloc _).trans hx, HG.out⟩
          case measure => simp [intOf]; omega
    · have hlt2 : (n : Int) ≤ (k : Int) := by omega
      obtain rfl : r = true := by rw [← HP.out, List.drop_eq_nil_of_le (by rw [HN.out]; omega)]; rfl
      go_wp2
      go_ret
      exact ⟨rfl, hU2⟩
end Go.Proofs.YtahlecmlhdikjaaDoor
end

section
namespace Go.Proofs.YtahlecmlhdikjaaDoor
set_option linter.unusedSimpArgs false
open Go.ChangeShapes Go.WideShapes Go.ChangeAt Go.RowKit
set_option linter.unusedVariables false

set_option maxHeartbeats 4000000 in
theorem base_LinRight (K : Int) (v : Value) (l : List Mono) (w : World) (hv : MonosAt w v l) :
    Calls Tryd.prog 61 #[.agg #[.int .i64 K, v]] w fun e w' => e = .returned (.bool (okL l)) ∧ Up w w' := by
  obtain ⟨⟨a, cap, rfl, h0, hc⟩, hmax⟩ := hv
  obtain ⟨r, hr⟩ : ∃ r, okL l = r := ⟨_, rfl⟩
  rw [hr]
  obtain ⟨n, hn⟩ : ∃ n, l.length = n := ⟨_, rfl⟩
  rw [hn] at h0 hc hmax ⊢
  have HN := Lib.hid hn
  have HR := Lib.hid hr
  have HC := Lib.hid hc
  have H0 := Lib.hid h0
  clear hr hn hc h0
  go_enter Tryd.func61, Tryd.ntmps61
  go_wp2
  obtain ⟨W1, hW1⟩ : ∃ W1, w.alloc (.cells #[.int .i64 K, .slice a n cap] 24) = W1 := ⟨_, rfl⟩
  rw [hW1]
  have HU1 : Hid (Up w W1) := Lib.hid (hW1 ▸ (Up.refl w).alloc _)
  obtain ⟨B, hB⟩ : ∃ B, w.heap.size = B := ⟨_, rfl⟩
  have hrow : W1.heap[B]? = some (.cells #[.int .i64 K, .slice a n cap] 24 (0, 0)) := by
    rw [← hW1, ← hB]; exact heap_alloc_new w _
  have hsz1 : W1.heap.size = B + 1 := by rw [← hW1, size_alloc, hB]
  have HROW := Lib.hid hrow
  clear hrow hW1
  try rw [hB]
  have HB := Lib.hid hB
  clear hB
  go_loopw [3] (fun i wr => ∃ k : Nat, k ≤ n ∧ i = .int .i64 k ∧ Up W1 wr ∧ okFrom (prevAt l k) (l.drop k) = r) (fun i _ => n - (intOf i).toNat)
  case atStart => exact ⟨0, by omega, rfl, Up.refl _, by rw [List.drop_zero]; exact HR.out⟩
  case round =>
    rename_i wr
    obtain ⟨k, hk, rfl, hU, hP⟩ := hrel
    have HP := Lib.hid hP
    clear hP
    have hU2 := HU1.out.trans hU
    have d1 : wr.cell? ⟨B, 1, none⟩ = some (.slice a n cap) := (hU.cell _ _ (by omega)).trans (cell_of_row _ _ _ _ _ _ HROW.out)
    by_cases hlt : k < n
    · have hlt2 : (k : Int) < (n : Int) := by omega
      have hk0 : (0 : Int) ≤ (k : Int) := by omega
      obtain ⟨x, rfl⟩ : ∃ x, a = some x := by
        cases a with
        | none => exact absurd (H0.out rfl) (by omega)
        | some x => exact ⟨x, rfl⟩
      obtain ⟨g1, g2, g3⟩ := HC.out x rfl (by omega)
      obtain ⟨bl, off, sp⟩ := x
      have g1' : sp = none := g1
      subst g1'
      obtain ⟨s, b, hm⟩ : ∃ s b, l.getD k m0 = (s, b) := ⟨_, _, rfl⟩
      have g4 : ∀ i j, i < n → j < 2 → wr.cell? ⟨bl, off + i * 2 + j, none⟩ = some (monoF l i j) := fun i j hi hj => (hU2.cell _ _ g2).trans (g3 i j hi hj)
      obtain ⟨c0, c1⟩ := mono_at n g4 hlt hm
      have hs1 := hU.size
      have hs2 := hU2.size
      have g2' : bl < w.heap.size := g2
      have q1 : bl < wr.heap.size := by omega
      have q2 : B < wr.heap.size := by omega
      have hdrop := drop_mono (by rw [HN.out]; exact hlt) hm
      have HM := Lib.hid hm
      have G4 := Lib.hid g4
      clear g3 hm g4 g2 g2'
      have HP1 : Hid ((nameB s.toList && decide (b ≠ 0) && prevOk (prevAt l k) s.toList && okFrom (some s.toList) (l.drop (k + 1))) = r) := Lib.hid (by rw [← HP.out, hdrop]; rfl)
      clear hdrop
      obtain ⟨nb, hnb⟩ : ∃ q, nameB s.toList = q := ⟨_, rfl⟩
      rw [hnb] at HP1
      have HID : Hid (∀ w : World, Calls Tryd.prog 96 #[.string s] w fun e w' => e = .returned (.bool nb) ∧ Up w w') := Lib.hid fun w => by
        rw [← hnb]
        exact base_Name s w
      clear hnb HP
      cases nb
      · have HF : Hid (false = r) := Lib.hid (by rw [← HP1.out]; rfl)
        go_wp2_with fail
        refine wp_region_ext (by kernel_rfl) (by kernel_rfl) ?_
        repeat (go_big_quiet_step ((go_at_call 96; exact Calls.ext_of (HID.out _))))
        refine wpQuiet_nil ?_
        intro x hx
        go_wp2
        go_ret
        exact ⟨ret_bool HF.out, hU2.trans hx⟩
      by_cases hb : b = 0
      · subst hb
        have HF : Hid (false = r) := Lib.hid (by rw [← HP1.out]; rfl)
        go_wp2_with fail
        refine wp_region_ext (by kernel_rfl) (by kernel_rfl) ?_
        repeat (go_big_quiet_step ((go_at_call 96; exact Calls.ext_of (HID.out _))))
        refine wpQuiet_nil ?_
        intro x hx
        go_wp2
        go_ret
        exact ⟨ret_bool HF.out, hU2.trans hx⟩
      have hb2 : (b == 0) = false := by simpa using hb
      have HP2 : Hid ((prevOk (prevAt l k) s.toList && okFrom (some s.toList) (l.drop (k + 1))) = r) := Lib.hid (by
        rw [← HP1.out]
        simp [hb])
      clear HP1
      cases k with
      | zero =>
        simp only [Nat.zero_mul, Nat.add_zero] at c0 c1
        have HG : Hid (okFrom (prevAt l (0 + 1)) (l.drop (0 + 1)) = r) := Lib.hid (by
          rw [← HP2.out]
          show okFrom (some (l.getD 0 m0).1.toList) _ = _
          rw [HM.out]; rfl)
        clear HP2
        go_wp2_with fail
        refine wp_region_ext (by kernel_rfl) (by kernel_rfl) ?_
        repeat (go_big_quiet_step ((go_at_call 96; exact Calls.ext_of (HID.out _))))
        refine wpQuiet_nil ?_
        intro x hx
        go_wp2
        go_roundw
        case rel => exact ⟨0 + 1, by omega, by go_num, hU.trans hx, HG.out⟩
        case measure => simp [intOf]; omega
      | succ j =>
        obtain ⟨s', b', hm'⟩ : ∃ s b, l.getD j m0 = (s, b) := ⟨_, _, rfl⟩
        obtain ⟨c2, c3⟩ := mono_at n G4.out (by omega : j < n) hm'
        obtain ⟨q, hq⟩ : ∃ q, Op.bytesLess s'.toList s.toList = q := ⟨_, rfl⟩
        have HP3 : Hid ((q && okFrom (some s.toList) (l.drop (j + 1 + 1))) = r) := Lib.hid (by
          rw [← HP2.out]
          show _ = (Op.bytesLess (l.getD j m0).1.toList s.toList && _)
          rw [hm', hq])
        have hkp : (0 : Int) < ((j + 1 : Nat) : Int) := by omega
        have hkm : ((j + 1 : Nat) : Int) - 1 = (j : Int) := by omega
        have hj0 : (0 : Int) ≤ (j : Int) := by omega
        have hjn : (j : Int) < (n : Int) := by omega
        clear HP2 hm'
        cases q
        · have HF : Hid (false = r) := Lib.hid (by rw [← HP3.out]; rfl)
          go_wp2_with fail
          refine wp_region_ext (by kernel_rfl) (by kernel_rfl) ?_
          repeat (go_big_quiet_step ((go_at_call 96; exact Calls.ext_of (HID.out _))))
          refine wpQuiet_nil ?_
          intro x hx
          go_wp2
          go_ret
          exact ⟨ret_bool HF.out, hU2.trans hx⟩
        · have HG : Hid (okFrom (prevAt l (j + 1 + 1)) (l.drop (j + 1 + 1)) = r) := Lib.hid (by
            rw [← HP3.out]
            show okFrom (some (l.getD (j + 1) m0).1.toList) _ = _
            rw [HM.out]; rfl)
          clear HP3
          go_wp2_with fail
          refine wp_region_ext (by kernel_rfl) (by kernel_rfl) ?_
          repeat (go_big_quiet_step ((go_at_call 96; exact Calls.ext_of (HID.out _))))
          refine wpQuiet_nil ?_
          intro x hx
          go_wp2
          go_roundw
          case rel => exact ⟨j + 1 + 1, by omega, by go_num, hU.trans hx, HG.out⟩
          case measure => simp [intOf]; omega
    · have hlt2 : (n : Int) ≤ (k : Int) := by omega
      obtain rfl : r = true := by rw [← HP.out, List.drop_eq_nil_of_le (by rw [HN.out]; omega)]; rfl
      go_wp2
      go_ret
      exact ⟨rfl, hU2⟩
theorem r05_Validate (K : Int) (v : Value) (l : List Mono) (w : World) (hv : MonosAt w v l) :
    Calls Tryd.prog 65 #[.agg #[.int .i64 K, v]] w fun e w' => e = .returned (.int .i64 (errOf (okL l))) ∧ Up w w' := by
  obtain ⟨r, hr⟩ : ∃ r, okL l = r := ⟨_, rfl⟩
  have hc := fun w h => base_LinRight K v l w h
  rw [hr] at hc ⊢
  have HV := Lib.hid hv
  obtain ⟨⟨a, cap, rfl, _, _⟩, _⟩ := hv
  have HC := Lib.hid hc
  clear hc hr
  go_enter Tryd.func65, Tryd.ntmps65
  go_wp2_with fail
  refine (HC.out _ (HV.out.up (by first | exact Up.refl _ | exact (Up.refl _).alloc _))).mono ?_
  rintro e x1 ⟨rfl, hx1⟩
  cases r
  · go_wp2
    go_ret
    exact ⟨rfl, by first | exact hx1 | exact ((Up.refl w).alloc _).trans hx1⟩
  · go_wp2
    go_ret
    exact ⟨rfl, by first | exact hx1 | exact ((Up.refl w).alloc _).trans hx1⟩
end Go.Proofs.YtahlecmlhdikjaaDoor
end

section
namespace Go.Proofs.YtahlecmlhdikjaaDoor
set_option linter.unusedSimpArgs false
open Go.ChangeShapes Go.WideShapes Go.ChangeAt Go.RowKit
set_option linter.unusedVariables false

def eqM (l l' : List Mono) : Bool := decide (l = l')
theorem eqM_cons (m m' : Mono) (l l' : List Mono) : eqM (m :: l) (m' :: l') = (decide (m.1 = m'.1) && decide (m.2 = m'.2) && eqM l l') := by
  obtain ⟨a, b⟩ := m
  obtain ⟨c, d⟩ := m'
  unfold eqM
  simp [Bool.and_assoc]
theorem toList_inj {s t : ByteArray} (h : s.toList = t.toList) : s = t := by
  rw [Lib.toList_data, Lib.toList_data] at h
  rw [← Lib.mk_data s, ← Lib.mk_data t, h]
theorem eqM_len {l l' : List Mono} (h : l.length ≠ l'.length) : eqM l l' = false := by
  unfold eqM
  exact decide_eq_false fun e => h (by rw [e])

/-- An element of such a slice, met in a later world. -/
theorem MonosAt.elem {w wr : World} {v : Value} {l : List Mono} (h : MonosAt w v l) (hU : Up w wr) (k : Nat) (hk : k < l.length) {n : Nat} (hn : l.length = n) {a : Option Addr} {cap : Nat} (hv : v = .slice a n cap) :
    ∃ bl off s b, a = some ⟨bl, off, none⟩ ∧ bl < w.heap.size ∧ l.getD k m0 = (s, b) ∧ wr.cell? ⟨bl, off + k * 2, none⟩ = some (.string s) ∧ wr.cell? ⟨bl, off + k * 2 + 1, none⟩ = some (.int .i64 b) := by
  subst hn
  obtain ⟨⟨a', cap', hv', h0, hc⟩, hmax⟩ := h
  rw [hv'] at hv
  simp only [Value.slice.injEq] at hv
  obtain ⟨rfl, -, rfl⟩ := hv
  clear hv'
  cases a' with
  | none => exact absurd (h0 rfl) (by omega)
  | some x =>
    obtain ⟨g1, g2, g3⟩ := hc x rfl (by omega)
    obtain ⟨bl, off, sp⟩ := x
    have g1' : sp = none := g1
    subst g1'
    have g2' : bl < w.heap.size := g2
    have g4 : ∀ i j, i < l.length → j < 2 → wr.cell? ⟨bl, off + i * 2 + j, none⟩ = some (monoF l i j) := fun i j hi hj => (hU.cell _ _ g2').trans (g3 i j hi hj)
    obtain ⟨s, b, hm⟩ : ∃ s b, l.getD k m0 = (s, b) := ⟨_, _, rfl⟩
    obtain ⟨c0, c1⟩ := mono_at l.length g4 hk hm
    exact ⟨bl, off, s, b, rfl, g2', hm, c0, c1⟩
theorem MonosAt.slice {w : World} {v : Value} {l : List Mono} (h : MonosAt w v l) : ∃ a cap, v = .slice a l.length cap := by
  obtain ⟨⟨a, cap, hv, _, _⟩, _⟩ := h
  exact ⟨a, cap, hv⟩
theorem MonosAt.up {w w' : World} {v : Value} {l : List Mono} (h : MonosAt w v l) (u : Up w w') : MonosAt w' v l := SlAt.up h u

set_option maxHeartbeats 2000000 in
theorem slices_EqualM (v v' : Value) (l l' : List Mono) (w : World) (hv : MonosAt w v l) (hv' : MonosAt w v' l') :
    Calls Tryd.prog 83 #[v, v'] w fun e w' => e = .returned (.bool (eqM l l')) ∧ Up w w' := by
  have hmax := hv.max
  have hmax' := hv'.max
  obtain ⟨r, hr⟩ : ∃ r, eqM l l' = r := ⟨_, rfl⟩
  rw [hr]
  obtain ⟨a, cap, rfl⟩ := hv.slice
  obtain ⟨a', cap', rfl⟩ := hv'.slice
  obtain ⟨n, hn⟩ : ∃ n, l.length = n := ⟨_, rfl⟩
  obtain ⟨n', hn'⟩ : ∃ n, l'.length = n := ⟨_, rfl⟩
  rw [hn] at hv hmax ⊢
  rw [hn'] at hv' hmax' ⊢
  have HV := Lib.hid hv
  have HV' := Lib.hid hv'
  have HN := Lib.hid hn
  have HN' := Lib.hid hn'
  have HR := Lib.hid hr
  clear hr hn hv hv' hn'
  by_cases hnn : n = n'
  · subst hnn
    go_enter Tryd.func83, Tryd.ntmps83
    go_wp2
    go_loopw [13] (fun i wr => ∃ k : Nat, k ≤ n ∧ i = .int .i64 k ∧ Up w wr ∧ eqM (l.drop k) (l'.drop k) = r) (fun i _ => n - (intOf i).toNat)
    case atStart => exact ⟨0, by omega, rfl, Up.refl _, by rw [List.drop_zero, List.drop_zero]; exact HR.out⟩
    case round =>
      rename_i wr
      obtain ⟨k, hk, rfl, hU, hP⟩ := hrel
      have HP := Lib.hid hP
      clear hP
      by_cases hlt : k < n
      · have hlt2 : (k : Int) < (n : Int) := by omega
        have hk0 : (0 : Int) ≤ (k : Int) := by omega
        obtain ⟨bl, off, s, b, rfl, p1, p2, p3, p4⟩ := HV.out.elem hU k (by rw [HN.out]; exact hlt) HN.out rfl
        obtain ⟨bl', off', s', b', rfl, p1', p2', p3', p4'⟩ := HV'.out.elem hU k (by rw [HN'.out]; exact hlt) HN'.out rfl
        have hs := hU.size
        have q1 : bl < wr.heap.size := by omega
        have q2 : bl' < wr.heap.size := by omega
        have HP2 : Hid ((decide (s = s') && decide (b = b') && eqM (l.drop (k + 1)) (l'.drop (k + 1))) = r) := Lib.hid (by
          rw [← HP.out, drop_mono (by rw [HN.out]; exact hlt) p2, drop_mono (l := l') (by rw [HN'.out]; exact hlt) p2', eqM_cons])
        clear p2 p2' HP
        by_cases hss : s = s'
        · subst hss
          by_cases hbb : b = b'
          · subst hbb
            have HG : Hid (eqM (l.drop (k + 1)) (l'.drop (k + 1)) = r) := Lib.hid (by rw [← HP2.out]; simp)
            go_wp2_with fail
            refine wp_region_ext (by kernel_rfl) (by kernel_rfl) ?_
            repeat (go_big_quiet_step (fail))
            refine wpQuiet_nil ?_
            intro x hx
            go_wp2
            go_roundw
            case rel => exact ⟨k + 1, by omega, by go_num, hU.trans hx, HG.out⟩
            case measure => simp [intOf]; omega
          · have hb2 : (b == b') = false := by simpa using hbb
            have HG : Hid (false = r) := Lib.hid (by rw [← HP2.out]; simp [hbb])
            go_wp2_with fail
            refine wp_region_ext (by kernel_rfl) (by kernel_rfl) ?_
            repeat (go_big_quiet_step (fail))
            refine wpQuiet_nil ?_
            intro x hx
            go_wp2
            go_ret
            exact ⟨ret_bool HG.out, hU.trans hx⟩
        · have hs2 : (s.toList == s'.toList) = false := by simpa using fun e => hss (toList_inj e)
          have HG : Hid (false = r) := Lib.hid (by rw [← HP2.out]; simp [hss])
          go_wp2_with fail
          refine wp_region_ext (by kernel_rfl) (by kernel_rfl) ?_
          repeat (go_big_quiet_step (fail))
          refine wpQuiet_nil ?_
          intro x hx
          go_wp2
          go_ret
          exact ⟨ret_bool HG.out, hU.trans hx⟩
      · have hlt2 : (n : Int) ≤ (k : Int) := by omega
        obtain rfl : r = true := by rw [← HP.out, List.drop_eq_nil_of_le (by rw [HN.out]; omega), List.drop_eq_nil_of_le (by rw [HN'.out]; omega)]; rfl
        go_wp2
        go_ret
        exact ⟨rfl, hU⟩
  · have h1 : ((n : Int) == (n' : Int)) = false := by simpa using (by omega : ¬ (n : Int) = (n' : Int))
    have HG : Hid (false = r) := Lib.hid (by rw [← HR.out, eqM_len (by rw [HN.out, HN'.out]; exact hnn)])
    go_enter Tryd.func83, Tryd.ntmps83
    go_wp2
    go_ret
    exact ⟨ret_bool HG.out, Up.refl _⟩
end Go.Proofs.YtahlecmlhdikjaaDoor
end

section
namespace Go.Proofs.YtahlecmlhdikjaaDoor
set_option linter.unusedSimpArgs false
open Go.ChangeShapes Go.WideShapes Go.ChangeAt Go.RowKit
set_option linter.unusedVariables false

/-- The world only grew, but for block b. -/
structure UpBut (b : Nat) (w w' : World) : Prop where
  os : w'.os = w.os
  tape : w'.tape = w.tape
  output : w'.output = w.output
  size : w.heap.size ≤ w'.heap.size
  block : ∀ k, k < w.heap.size → k ≠ b → w'.heap[k]? = w.heap[k]?

theorem UpBut.refl (b : Nat) (w : World) : UpBut b w w := ⟨rfl, rfl, rfl, Nat.le_refl _, fun _ _ _ => rfl⟩
theorem Up.but {w w' : World} (h : Up w w') (b : Nat) : UpBut b w w' := ⟨Below.os h, Below.tape h, Below.output h, Below.size h, fun k hk _ => Below.block h k hk⟩
theorem UpBut.trans {b : Nat} {x y z : World} (h : UpBut b x y) (k : UpBut b y z) : UpBut b x z :=
  ⟨k.os.trans h.os, k.tape.trans h.tape, k.output.trans h.output, Nat.le_trans h.size k.size, fun i hi hb => (k.block i (Nat.lt_of_lt_of_le hi h.size) hb).trans (h.block i hi hb)⟩
theorem UpBut.setCell {b : Nat} {w w' : World} (h : UpBut b w w') (o : Nat) (s : Option Nat) (v : Value) : UpBut b w (w'.setCell ⟨b, o, s⟩ v) :=
  h.trans ⟨rfl, rfl, rfl, by simp [World.setCell], fun k hk hb => Below.heap_setCell _ _ _ _ hb⟩
/-- A block of the call's own, laid behind, is no block that was there. -/
theorem UpBut.up {b : Nat} {w w1 w2 : World} (h : Up w w1) (hb : w.heap.size ≤ b) (k : UpBut b w1 w2) : Up w w2 :=
  ⟨k.os.trans (Below.os h), k.tape.trans (Below.tape h), k.output.trans (Below.output h), Nat.le_trans (Below.size h) k.size, fun i hi => (k.block i (Nat.lt_of_lt_of_le hi (Below.size h)) (by omega)).trans (Below.block h i hi)⟩
theorem UpBut.cell {b : Nat} {w w' : World} (h : UpBut b w w') (k o : Nat) (hk : k < w.heap.size) (hb : k ≠ b) : w'.cell? ⟨k, o, none⟩ = w.cell? ⟨k, o, none⟩ :=
  World.cell?_of_block (w := w) (h.block k hk hb)

theorem set_ne (w : World) (b o o' : Nat) (v : Value) (h : o ≠ o') : (w.setCell ⟨b, o, none⟩ v).cell? ⟨b, o', none⟩ = w.cell? ⟨b, o', none⟩ := World.cell?_setCell_other _ _ _ _ (fun e => h (congrArg Addr.off e))
theorem set_eq (w : World) (b o : Nat) (v u : Value) (h : w.cell? ⟨b, o, none⟩ = some u) : (w.setCell ⟨b, o, none⟩ v).cell? ⟨b, o, none⟩ = some v := World.cell?_setCell_same _ _ _ h
theorem set_size (w : World) (a : Addr) (v : Value) : (w.setCell a v).heap.size = w.heap.size := by simp [World.setCell]
end Go.Proofs.YtahlecmlhdikjaaDoor
end

section
namespace Go.Proofs.YtahlecmlhdikjaaDoor
set_option linter.unusedSimpArgs false
open Go.ChangeShapes Go.WideShapes Go.ChangeAt Go.RowKit
set_option linter.unusedVariables false

def idxFrom (s : List UInt8) : List Mono → Nat → Int
  | [], _ => -1
  | m :: r, k => if m.1.toList == s then (k : Int) else idxFrom s r (k + 1)

theorem lin_Eval1 (u s : ByteArray) (x : Int) (B : Nat) (w : World) (hB : B < w.heap.size) (hc : w.cell? ⟨B, 0, none⟩ = some (.string s)) :
    Calls Tryd.prog 93 #[.agg #[.string u, .int .i64 x], .pointer (some ⟨B, 0, none⟩)] w fun e w' => e = .returned (.bool (u.toList == s.toList)) ∧ Up w w' := by
  go_enter Tryd.func93, Tryd.ntmps93
  go_wp2
  go_ret
  exact ⟨rfl, (Up.refl w).alloc _⟩

set_option maxHeartbeats 2000000 in
theorem slices_IndexFunc (s : ByteArray) (B : Nat) (v : Value) (l : List Mono) (w : World) (hv : MonosAt w v l) (hB : B < w.heap.size) (hc : w.cell? ⟨B, 0, none⟩ = some (.string s)) :
    Calls Tryd.prog 92 #[v, .func (.func 93) #[] #[.pointer (some ⟨B, 0, none⟩)]] w fun e w' => e = .returned (.int .i64 (idxFrom s.toList l 0)) ∧ Up w w' := by
  have hmax := hv.max
  obtain ⟨r, hr⟩ : ∃ r, idxFrom s.toList l 0 = r := ⟨_, rfl⟩
  rw [hr]
  obtain ⟨a, cap, rfl⟩ := hv.slice
  obtain ⟨n, hn⟩ : ∃ n, l.length = n := ⟨_, rfl⟩
  rw [hn] at hv hmax ⊢
  have HV := Lib.hid hv
  have HN := Lib.hid hn
  have HR := Lib.hid hr
  have HC := Lib.hid hc
  clear hr hn hv hc
  go_enter Tryd.func92, Tryd.ntmps92
  go_wp2
  go_loopw [8] (fun i wr => ∃ k : Nat, k ≤ n ∧ i = .int .i64 k ∧ Up w wr ∧ idxFrom s.toList (l.drop k) k = r) (fun i _ => n - (intOf i).toNat)
  case atStart => exact ⟨0, by omega, rfl, Up.refl _, by rw [List.drop_zero]; exact HR.out⟩
  case round =>
    rename_i wr
    obtain ⟨k, hk, rfl, hU, hP⟩ := hrel
    have HP := Lib.hid hP
    clear hP
    by_cases hlt : k < n
    · have hlt2 : (k : Int) < (n : Int) := by omega
      have hk0 : (0 : Int) ≤ (k : Int) := by omega
      obtain ⟨bl, off, u, x, rfl, p1, p2, p3, p4⟩ := HV.out.elem hU k (by rw [HN.out]; exact hlt) HN.out rfl
      have hs := hU.size
      obtain ⟨q, hq⟩ : ∃ q, (u.toList == s.toList) = q := ⟨_, rfl⟩
      have HCL : Hid (Calls Tryd.prog 93 #[.agg #[.string u, .int .i64 x], .pointer (some ⟨B, 0, none⟩)] wr fun e w' => e = .returned (.bool q) ∧ Up wr w') := Lib.hid (by
        have := lin_Eval1 u s x B wr (by omega) ((hU.cell _ _ hB).trans HC.out)
        rw [hq] at this
        exact this)
      have HP2 : Hid ((if q then (k : Int) else idxFrom s.toList (l.drop (k + 1)) (k + 1)) = r) := Lib.hid (by
        rw [← HP.out, drop_mono (by rw [HN.out]; exact hlt) p2]
        show _ = (if u.toList == s.toList then (k : Int) else _)
        rw [hq])
      clear p2 HP hq
      go_wp2_with fail
      refine HCL.out.mono ?_
      rintro e x1 ⟨rfl, hx1⟩
      cases q
      · go_wp2
        go_roundw
        case rel => exact ⟨k + 1, by omega, by go_num, hU.trans hx1, HP2.out⟩
        case measure => simp [intOf]; omega
      · go_wp2
        go_ret
        exact ⟨ret_int (by rw [← HP2.out]; rfl), hU.trans hx1⟩
    · have hlt2 : (n : Int) ≤ (k : Int) := by omega
      obtain rfl : r = -1 := by rw [← HP.out, List.drop_eq_nil_of_le (by rw [HN.out]; omega)]; rfl
      go_wp2
      go_ret
      exact ⟨rfl, hU⟩
end Go.Proofs.YtahlecmlhdikjaaDoor
end

section
namespace Go.Proofs.YtahlecmlhdikjaaDoor
set_option linter.unusedVariables false
open Go.RowKit
set_option linter.unusedSimpArgs false

def mag (n : Int) : Int := if n < 0 then -n else n
theorem mag_nonneg (n : Int) : 0 ≤ mag n := by unfold mag; split <;> omega
theorem mag_natAbs (n : Int) : mag n = n.natAbs := by unfold mag; split <;> omega

theorem gcd_step (a b : Int) (ha : 0 ≤ a) (hb : 0 ≤ b) : Int.gcd b (a % b) = Int.gcd a b := by
  obtain ⟨x, rfl⟩ := Int.eq_ofNat_of_zero_le ha
  obtain ⟨y, rfl⟩ := Int.eq_ofNat_of_zero_le hb
  rw [← Int.natCast_emod, Int.gcd_natCast_natCast, Int.gcd_natCast_natCast, Nat.gcd_comm x y, Nat.gcd_rec y x, Nat.gcd_comm]

theorem gcd_mag (a b : Int) : Int.gcd (mag a) (mag b) = Int.gcd a b := by
  rw [mag_natAbs, mag_natAbs]; simp [Int.gcd]

theorem gcd_mag_left (a b : Int) : Int.gcd (mag a) b = Int.gcd a b := by
  rw [mag_natAbs]; simp [Int.gcd]

theorem wrap_u64_neg (n : Int) (h1 : -9223372036854775808 ≤ n) (h2 : n < 0) : IntKind.u64.wrap (-IntKind.u64.wrap n) = -n := by
  rw [IntKind.wrap_u64, IntKind.wrap_u64]; omega
/-- What 'New' of package frac returns: numerator, denominator, error. -/
def newF (n d : Int) : Int × Int × Int :=
  if d = 0 then (0, 0, 4)
  else if 2147483647 < mag n / (Int.gcd n d : Int) ∨ 2147483647 < mag d / (Int.gcd n d : Int) then (0, 0, 3)
  else if decide (n < 0) != decide (d < 0) then (-(mag n / (Int.gcd n d : Int)), mag d / (Int.gcd n d : Int), 0)
  else (mag n / (Int.gcd n d : Int), mag d / (Int.gcd n d : Int), 0)

def isMode (how : Int) : Bool := decide (1 ≤ how ∧ how ≤ 4)

/-- The rounded quotient of two magnitudes. -/
def rnd (a b : Int) (neg : Bool) (how : Int) : Int :=
  if a % b = 0 ∨ how = 3 then a / b
  else if (how = 1 ∧ neg = false) ∨ (how = 2 ∧ neg = true) then a / b
  else if how = 4 ∧ (2 * (a % b) < b ∨ 2 * (a % b) = b ∧ a / b % 2 = 0) then a / b
  else a / b + 1

theorem rnd_bd (a b : Int) (neg : Bool) (how : Int) (ha : 0 ≤ a) (hb : 1 ≤ b) : 0 ≤ rnd a b neg how ∧ rnd a b neg how ≤ a := by
  have hq0 : 0 ≤ a / b := Int.ediv_nonneg ha (by omega)
  have hq1 : a / b ≤ a := Int.ediv_le_self _ ha
  have hr0 : 0 ≤ a % b := Int.emod_nonneg _ (by omega)
  have hr1 : a % b < b := Int.emod_lt_of_pos _ (by omega)
  have hd := Int.mul_ediv_add_emod a b
  have key : a % b ≠ 0 → a / b + 1 ≤ a := by
    intro h
    have h2 : 2 ≤ b := by omega
    have h3 : 2 * (a / b) ≤ b * (a / b) := Int.mul_le_mul_of_nonneg_right h2 hq0
    omega
  unfold rnd
  repeat' split
  all_goals first | omega | (have := key (by omega); omega)

theorem wrap_i64_neg (m : Int) (h0 : 0 ≤ m) (h1 : m ≤ 9223372036854775808) : wrap64 (IntKind.u64.wrap (-m)) = -m := by
  rw [wrap64, IntKind.wrap_u64]; omega

/-- What 'Divide' of package round returns: the quotient, the error. -/
def divR (n d how : Int) : Int × Int :=
  if isMode how = false then (0, 1)
  else if d = 0 then (0, 4)
  else if decide (n < 0) != decide (d < 0) then (-(rnd (mag n) (mag d) (decide (n < 0) != decide (d < 0)) how), 0)
  else if 9223372036854775808 ≤ rnd (mag n) (mag d) (decide (n < 0) != decide (d < 0)) how then (0, 3)
  else (rnd (mag n) (mag d) (decide (n < 0) != decide (d < 0)) how, 0)

theorem tdiv_mag (n d : Int) : (n.tdiv d = if decide (n < 0) != decide (d < 0) then -(mag n / mag d) else mag n / mag d) ∧ (n.tmod d = if n < 0 then -(mag n % mag d) else mag n % mag d) := by
  have e : ∀ a b : Int, 0 ≤ a → 0 ≤ b → a.tdiv b = a / b ∧ a.tmod b = a % b := fun a b h1 _ => ⟨Int.tdiv_eq_ediv_of_nonneg h1, Int.tmod_eq_emod_of_nonneg h1⟩
  by_cases h1 : n < 0
  · by_cases h2 : d < 0
    · obtain ⟨e1, e2⟩ := e (-n) (-d) (by omega) (by omega)
      have f1 : n.tdiv d = (-n).tdiv (-d) := by rw [Int.neg_tdiv, Int.tdiv_neg]; omega
      have f2 : n.tmod d = -((-n).tmod (-d)) := by rw [Int.neg_tmod, Int.tmod_neg]; omega
      simp only [mag, h1, h2, if_true]
      simp [f1, f2, e1, e2]
    · obtain ⟨e1, e2⟩ := e (-n) d (by omega) (by omega)
      have f1 : n.tdiv d = -((-n).tdiv d) := by rw [Int.neg_tdiv]; omega
      have f2 : n.tmod d = -((-n).tmod d) := by rw [Int.neg_tmod]; omega
      simp only [mag, h1, h2, if_true, if_false]
      simp [f1, f2, e1, e2]
  · by_cases h2 : d < 0
    · obtain ⟨e1, e2⟩ := e n (-d) (by omega) (by omega)
      have f1 : n.tdiv d = -(n.tdiv (-d)) := by rw [Int.tdiv_neg]; omega
      have f2 : n.tmod d = n.tmod (-d) := by rw [Int.tmod_neg]
      simp only [mag, h1, h2, if_true, if_false]
      simp [f1, f2, e1, e2]
    · obtain ⟨e1, e2⟩ := e n d (by omega) (by omega)
      simp only [mag, h1, h2, if_false]
      simp [e1, e2]

/-- The quotient of the reference. -/
def refD (q r d how : Int) : Int :=
  if r = 0 then q
  else if how = 1 then (if decide (r < 0) != decide (d < 0) then q - 1 else q)
  else if how = 2 then (if decide (r < 0) != decide (d < 0) then q - 1 else q) + 1
  else if how = 3 then q
  else if mag d - mag r < mag r ∨ (mag r = mag d - mag r ∧ q.tmod 2 ≠ 0) then (if decide (r < 0) != decide (d < 0) then q - 1 else q + 1)
  else q

theorem tmod_two (q : Int) : q.tmod 2 = if q < 0 then -((-q) % 2) else q % 2 := by
  split
  · have : q.tmod 2 = -((-q).tmod 2) := by rw [Int.neg_tmod]; omega
    rw [this, Int.tmod_eq_emod_of_nonneg (by omega)]
  · exact Int.tmod_eq_emod_of_nonneg (by omega)

theorem rnd_le (a b : Int) (neg : Bool) (how : Int) : rnd a b neg how ≤ a / b + 1 := by
  unfold rnd
  repeat' split
  all_goals omega

theorem divR_ref (n d how : Int) (hM : isMode how = true) (hd : d ≠ 0) (hn : -9223372036854775808 ≤ n ∧ n ≤ 9223372036854775807) (hx : ¬ (d = -1 ∧ n = -9223372036854775808)) : divR n d how = (refD (n.tdiv d) (n.tmod d) d how, 0) := by
  obtain ⟨e1, e2⟩ := tdiv_mag n d
  have hw : 1 ≤ how ∧ how ≤ 4 := by simpa [isMode] using hM
  have hmd1 : 1 ≤ mag d := by unfold mag; split <;> omega
  have hmn := mag_nonneg n
  have hR0 : 0 ≤ mag n % mag d := Int.emod_nonneg _ (by omega)
  have hR1 : mag n % mag d < mag d := Int.emod_lt_of_pos _ (by omega)
  have hQ0 : 0 ≤ mag n / mag d := Int.ediv_nonneg hmn (by omega)
  have hQ1 : mag n / mag d ≤ mag n := Int.ediv_le_self _ hmn
  have hmul := Int.mul_ediv_add_emod (mag n) (mag d)
  have hlt : ¬ (decide (n < 0) != decide (d < 0)) = true → rnd (mag n) (mag d) (decide (n < 0) != decide (d < 0)) how < 9223372036854775808 := by
    intro hneg
    have hb := (rnd_bd (mag n) (mag d) (decide (n < 0) != decide (d < 0)) how hmn hmd1).2
    by_cases h0 : n < 0
    · have h1 : d < 0 := by simpa [h0] using hneg
      have hl := rnd_le (mag n) (mag d) (decide (n < 0) != decide (d < 0)) how
      by_cases h2 : d = -1
      · have : mag n = -n := by simp [mag, h0]
        omega
      · have h3 : 2 ≤ mag d := by unfold mag; split <;> omega
        have h4 : 2 * (mag n / mag d) ≤ mag d * (mag n / mag d) := Int.mul_le_mul_of_nonneg_right h3 hQ0
        have : mag n = -n := by simp [mag, h0]
        omega
    · have : mag n = n := by unfold mag; split <;> omega
      omega
  rw [divR, if_neg (by simp [hM]), if_neg hd]
  have t2 := tmod_two (n.tdiv d)
  generalize hA : mag n = A at *
  generalize hB : mag d = B at *
  generalize hQ : A / B = Q at *
  generalize hR : A % B = R at *
  have m1 : mag R = R := by unfold mag; split <;> omega
  have m2 : mag (-R) = R := by unfold mag; split <;> omega
  by_cases hR00 : R = 0
  · have e3 : n.tmod d = 0 := by rw [e2]; split <;> omega
    have e4 : ∀ neg, rnd A B neg how = Q := fun neg => by rw [rnd, if_pos (Or.inl (by rw [hR]; exact hR00)), hQ]
    rw [refD, if_pos e3, e1]
    by_cases hs : (decide (n < 0) != decide (d < 0)) = true
    · simp only [hs, if_true, e4]
    · have := hlt hs
      rw [if_neg hs, if_neg (by omega), if_neg hs, e4]
  · have hhow : how = 1 ∨ how = 2 ∨ how = 3 ∨ how = 4 := by omega
    have t3 : Q.tmod 2 = 0 ↔ Q % 2 = 0 := by rw [tmod_two]; split <;> omega
    clear t2
    by_cases hn0 : n < 0
    · have e5 : n.tmod d = -R := by rw [e2, if_pos hn0]
      have s1 : -R < 0 := by omega
      by_cases hd0 : d < 0
      · simp only [hn0, hd0, decide_true, decide_false, bne_self_eq_false, Bool.false_eq_true, Bool.true_bne, Bool.false_bne, Bool.not_false, Bool.not_true, if_false, if_true] at e1 hlt ⊢
        have := hlt (by simp)
        rw [if_neg (by omega), e5, e1]
        clear hlt e1 e2 e5 hx hmul hQ1 hA hn
        refine Prod.ext ?_ rfl
        rcases hhow with rfl | rfl | rfl | rfl <;> simp [rnd, refD, hR, hQ, hB, m2, hd0, s1, hR00, t3] <;> (repeat' split) <;> omega
      · simp only [hn0, hd0, decide_true, decide_false, bne_self_eq_false, Bool.false_eq_true, Bool.true_bne, Bool.false_bne, Bool.not_false, Bool.not_true, if_false, if_true] at e1 hlt ⊢
        rw [e5, e1]
        clear hlt e1 e2 e5 hx hmul hQ1 hA hn
        refine Prod.ext ?_ rfl
        rcases hhow with rfl | rfl | rfl | rfl <;> simp [rnd, refD, hR, hQ, hB, m2, hd0, s1, hR00, t3] <;> (repeat' split) <;> omega
    · have e5 : n.tmod d = R := by rw [e2, if_neg hn0]
      have s1 : ¬ R < 0 := by omega
      by_cases hd0 : d < 0
      · simp only [hn0, hd0, decide_true, decide_false, bne_self_eq_false, Bool.false_eq_true, Bool.true_bne, Bool.false_bne, Bool.not_false, Bool.not_true, if_false, if_true] at e1 hlt ⊢
        rw [e5, e1]
        clear hlt e1 e2 e5 hx hmul hQ1 hA hn
        refine Prod.ext ?_ rfl
        rcases hhow with rfl | rfl | rfl | rfl <;> simp [rnd, refD, hR, hQ, hB, m1, hd0, s1, hR00, t3] <;> (repeat' split) <;> omega
      · simp only [hn0, hd0, decide_true, decide_false, bne_self_eq_false, Bool.false_eq_true, Bool.true_bne, Bool.false_bne, Bool.not_false, Bool.not_true, if_false, if_true] at e1 hlt ⊢
        have := hlt (by simp)
        rw [if_neg (by omega), e5, e1]
        clear hlt e1 e2 e5 hx hmul hQ1 hA hn
        refine Prod.ext ?_ rfl
        rcases hhow with rfl | rfl | rfl | rfl <;> simp [rnd, refD, hR, hQ, hB, m1, hd0, s1, hR00, t3] <;> (repeat' split) <;> omega

theorem div_facts (n d : Int) (hd : d ≠ 0) (hd1 : d ≠ -1) (hn1 : -9223372036854775808 ≤ n) (hn2 : n ≤ 9223372036854775807) :
    -9223372036854775808 ≤ n.tdiv d ∧ n.tdiv d ≤ 9223372036854775807 ∧ mag (n.tmod d) < mag d ∧ (n.tmod d ≠ 0 → -4611686018427387904 ≤ n.tdiv d ∧ n.tdiv d ≤ 4611686018427387904) := by
  obtain ⟨e1, e2⟩ := tdiv_mag n d
  have hmn := mag_nonneg n
  have hmn2 : mag n ≤ 9223372036854775808 := by unfold mag; split <;> omega
  have hmd1 : 1 ≤ mag d := by unfold mag; split <;> omega
  have hR0 : 0 ≤ mag n % mag d := Int.emod_nonneg _ (by omega)
  have hR1 : mag n % mag d < mag d := Int.emod_lt_of_pos _ (by omega)
  have hQ0 : 0 ≤ mag n / mag d := Int.ediv_nonneg hmn (by omega)
  have hQ1 : mag n / mag d ≤ mag n := Int.ediv_le_self _ hmn
  have hmul := Int.mul_ediv_add_emod (mag n) (mag d)
  have h2 : d ≠ 1 → 2 * (mag n / mag d) ≤ mag d * (mag n / mag d) := fun h => Int.mul_le_mul_of_nonneg_right (by unfold mag; split <;> omega) hQ0
  have hr : mag (n.tmod d) = mag n % mag d := by
    rw [e2]; generalize mag n % mag d = R at *; unfold mag; split <;> split <;> omega
  by_cases h1 : d = 1
  · subst h1
    simp at e1 e2 ⊢
    refine ⟨hn1, hn2, ?_⟩
    simp [mag]
  · have := h2 h1
    rw [hr, e1]
    refine ⟨?_, ?_, hR1, fun _ => ?_⟩
    · split <;> omega
    · split <;> omega
    · split <;> omega
end Go.Proofs.YtahlecmlhdikjaaDoor
end

section
namespace Go.Proofs.YtahlecmlhdikjaaDoor
set_option linter.unusedSimpArgs false
open Go.ChangeShapes Go.WideShapes Go.ChangeAt Go.RowKit
set_option linter.unusedVariables false

theorem wraps_u64 (n : Int) (h₀ : 0 ≤ n) (h₁ : n < 2 ^ 64) : IntKind.u64.wrap n = n := by rw [IntKind.wrap_u64]; omega
theorem u64_low (x : Int) (h₀ : 0 ≤ x) (h₁ : x < 18446744073709551616) : bits .and .u64 x 4294967295 = x % 4294967296 :=
  bits_mask .u64 64 (by decide) wraps_u64 32 (by decide) x h₀ (by omega)
theorem u64_low_wrap (x : Int) : bits .and .u64 (IntKind.u64.wrap x) 4294967295 = (IntKind.u64.wrap x) % 4294967296 := by
  rw [u64_low _ (by rw [IntKind.wrap_u64]; omega) (by rw [IntKind.wrap_u64]; omega)]

theorem mul_bd32 (x y : Int) (x0 : 0 ≤ x) (x1 : x ≤ 4294967295) (y0 : 0 ≤ y) (y1 : y ≤ 4294967295) : 0 ≤ x * y ∧ x * y ≤ 18446744065119617025 := by
  refine ⟨Int.mul_nonneg x0 y0, ?_⟩
  have h1 : x * y ≤ 4294967295 * y := Int.mul_le_mul_of_nonneg_right x1 y0
  omega

theorem hi_arith (p11 p10 p01 p00 ab : Int) (a0 : 0 ≤ p11) (a1 : p11 ≤ 18446744065119617025) (b0 : 0 ≤ p10) (b1 : p10 ≤ 18446744065119617025) (c0 : 0 ≤ p01) (c1 : p01 ≤ 18446744065119617025) (d0 : 0 ≤ p00) (d1 : p00 ≤ 18446744065119617025)
    (h : ab = p11 * 18446744073709551616 + (p10 + p01) * 4294967296 + p00) (hm : ab < 18446744073709551616 * 18446744073709551616) :
    ((p11 % 18446744073709551616 + (p10 % 18446744073709551616 + p00 % 18446744073709551616 / 4294967296) % 18446744073709551616 / 4294967296) % 18446744073709551616 +
      (p01 % 18446744073709551616 + (p10 % 18446744073709551616 + p00 % 18446744073709551616 / 4294967296) % 18446744073709551616 % 4294967296) % 18446744073709551616 / 4294967296) % 18446744073709551616 = ab / 18446744073709551616 := by
  have e1 : p00 % 18446744073709551616 = p00 := by omega
  have e2 : p10 % 18446744073709551616 = p10 := by omega
  have e3 : p01 % 18446744073709551616 = p01 := by omega
  have e4 : p11 % 18446744073709551616 = p11 := by omega
  rw [e1, e2, e3, e4]
  obtain ⟨mid, hmid⟩ : ∃ mid, p10 + p00 / 4294967296 = mid := ⟨_, rfl⟩
  rw [hmid]
  have e5 : mid % 18446744073709551616 = mid := by omega
  rw [e5]
  obtain ⟨cr, hcr⟩ : ∃ cr, p01 + mid % 4294967296 = cr := ⟨_, rfl⟩
  rw [hcr]
  have e6 : cr % 18446744073709551616 = cr := by omega
  rw [e6]
  omega

theorem split_mul (a b x1 x0 y1 y0 : Int) (ha : a = x1 * 4294967296 + x0) (hb : b = y1 * 4294967296 + y0) : a * b = x1 * y1 * 18446744073709551616 + (x1 * y0 + x0 * y1) * 4294967296 + x0 * y0 := by
  subst ha hb
  rw [Int.add_mul, Int.mul_add, Int.mul_add, Int.add_mul]
  rw [show x1 * 4294967296 * (y1 * 4294967296) = x1 * y1 * 18446744073709551616 by
    rw [Int.mul_assoc, Int.mul_comm 4294967296 (y1 * 4294967296), ← Int.mul_assoc, ← Int.mul_assoc, Int.mul_assoc]; rfl]
  rw [show x1 * 4294967296 * y0 = x1 * y0 * 4294967296 by rw [Int.mul_assoc, Int.mul_comm 4294967296 y0, Int.mul_assoc]]
  rw [show x0 * (y1 * 4294967296) = x0 * y1 * 4294967296 by rw [Int.mul_assoc]]
  omega

theorem lin_product (a b : Int) (a0 : 0 ≤ a) (a1 : a < 18446744073709551616) (b0 : 0 ≤ b) (b1 : b < 18446744073709551616) (w : World) :
    Calls Tryd.prog 94 #[.int .u64 a, .int .u64 b] w fun e w' => e = .returned (.tuple #[.int .u64 (a * b / 18446744073709551616), .int .u64 (a * b % 18446744073709551616)]) ∧ w' = w := by
  go_enter Tryd.func94, Tryd.ntmps94
  go_wp2
  go_ret2
  refine ⟨ret_ii ?_ (by rw [IntKind.wrap_u64]), rfl⟩
  rw [u64_low_wrap, u64_low a a0 a1, u64_low b b0 b1]
  simp only [IntKind.wrap_u64]
  have hm : a * b < 18446744073709551616 * 18446744073709551616 := by
    have h1 : a * b ≤ 18446744073709551615 * b := Int.mul_le_mul_of_nonneg_right (by omega) b0
    omega
  have hs := split_mul a b (a / 4294967296) (a % 4294967296) (b / 4294967296) (b % 4294967296) (by omega) (by omega)
  obtain ⟨q0, q1⟩ := mul_bd32 (a / 4294967296) (b / 4294967296) (by omega) (by omega) (by omega) (by omega)
  obtain ⟨q2, q3⟩ := mul_bd32 (a / 4294967296) (b % 4294967296) (by omega) (by omega) (by omega) (by omega)
  obtain ⟨q4, q5⟩ := mul_bd32 (a % 4294967296) (b / 4294967296) (by omega) (by omega) (by omega) (by omega)
  obtain ⟨q6, q7⟩ := mul_bd32 (a % 4294967296) (b % 4294967296) (by omega) (by omega) (by omega) (by omega)
  exact hi_arith _ _ _ _ _ q0 q1 q2 q3 q4 q5 q6 q7 hs hm

theorem lin_magnitude (n : Int) (h1 : -9223372036854775808 ≤ n) (h2 : n ≤ 9223372036854775807) (w : World) :
    Calls Tryd.prog 78 #[.int .i64 n] w fun e w' => e = .returned (.int .u64 (mag n)) ∧ w' = w := by
  by_cases h : n < 0
  · go_enter Tryd.func78, Tryd.ntmps78
    go_wp2
    go_ret
    refine ⟨ret_int ?_, rfl⟩
    rw [mag, if_pos h]
    exact wrap_u64_neg n h1 h
  · go_enter Tryd.func78, Tryd.ntmps78
    go_wp2
    go_ret
    refine ⟨ret_int ?_, rfl⟩
    rw [mag, if_neg (by omega)]
end Go.Proofs.YtahlecmlhdikjaaDoor
end
