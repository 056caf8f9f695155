/-
  Joined by a program: B, Sl, But.
-/
import Derived.WalkKit
import Derived.WalkSpells
import Derived.WalkLawsBesides
import Derived.ProofKit
import Derived.Outline
import Derived.OpenShut
import Derived.BigQuiet
import Derived.Below
import Derived.WalkSmall
import Derived.Deep.RegionWith
import Derived.Deep.DeepFit
import Derived.Lib.Hide
import Derived.Maps.AppendAt
import Derived.Deep.AppendLies
import Derived.OwnWalk
import Derived.Laws.Rows
import Derived.OneCell

section
namespace Go.Proofs.YtpccaifhcmcegaaGreat
set_option linter.unusedVariables false
set_option linter.unusedSimpArgs false
open Go.ChangeShapes Go.WideShapes Go.ChangeAt Go.RowKit

theorem ret_int {k : IntKind} {a b : Int} (h : a = b) : Ending.returned (.int k a) = .returned (.int k b) := by rw [h]
theorem ret_bool {a b : Bool} (h : a = b) : Ending.returned (.bool a) = .returned (.bool b) := by rw [h]

theorem ret_ii {k l : IntKind} {a b c d : Int} (h : a = c) (g : b = d) : Ending.returned (.tuple #[.int k a, .int l b]) = .returned (.tuple #[.int k c, .int l d]) := by rw [h, g]
theorem ret_ib {k : IntKind} {a c : Int} {b d : Bool} (h : a = c) (g : b = d) : Ending.returned (.tuple #[.int k a, .bool b]) = .returned (.tuple #[.int k c, .bool d]) := by rw [h, g]

/-- The world only grew: no block that was there has turned. -/
def Up (w w' : World) : Prop := Below w.heap.size w w'

theorem Up.refl (w : World) : Up w w := Below.refl _ _
theorem Up.size {w w' : World} (h : Up w w') : w.heap.size ≤ w'.heap.size := Below.size h
theorem Up.trans {a b c : World} (h : Up a b) (k : Up b c) : Up a c := Below.trans h (Below.mono k h.size)
theorem Up.drew {a w : World} (h : Up a w) : Up a w.drew := Below.drew h
theorem Up.drewN {a w : World} (n : Nat) (h : Up a w) : Up a (w.drewN n) := below_drewN h n
theorem Up.alloc {a w : World} (h : Up a w) (o : Obj) : Up a (w.alloc o) := Below.alloc h h.size o
theorem Up.setCell {a w : World} (h : Up a w) {p : Addr} (hp : a.heap.size ≤ p.block) (u : Value) : Up a (w.setCell p u) := Below.setCell h hp u
theorem Up.cell {w w' : World} (h : Up w w') (b o : Nat) (hb : b < w.heap.size) : w'.cell? ⟨b, o, none⟩ = w.cell? ⟨b, o, none⟩ := Below.cell (p := ⟨b, o, none⟩) h hb
theorem Up.frozen {w w' : World} (h : Up w w') (b o : Nat) (hb : b < w.heap.size) : w'.frozen? ⟨b, o, none⟩ = w.frozen? ⟨b, o, none⟩ := Below.frozen (p := ⟨b, o, none⟩) h hb
theorem Up.heap {w w' : World} (h : Up w w') (b : Nat) (hb : b < w.heap.size) : w'.heap[b]? = w.heap[b]? := Below.block h b hb
theorem Up.both {W w1 : World} (hb : Up W w1) : (∀ b o, b < W.heap.size → w1.cell? ⟨b, o, none⟩ = W.cell? ⟨b, o, none⟩) ∧ (∀ b o, b < W.heap.size → w1.frozen? ⟨b, o, none⟩ = W.frozen? ⟨b, o, none⟩) := ⟨hb.cell, hb.frozen⟩

/-- A world that only grew out of w. -/
def Ext (w : World) : Type := { x : World // Up w x }
instance (w : World) : Nonempty (Ext w) := ⟨⟨w, Up.refl w⟩⟩
def Ext.w {w : World} (i : Ext w) : World := i.1
theorem Ext.up {w : World} (i : Ext w) : Up w i.w := i.2
theorem Ext.cell_eq {w : World} (i : Ext w) (b o : Nat) (hb : b < w.heap.size) : i.w.cell? ⟨b, o, none⟩ = w.cell? ⟨b, o, none⟩ := i.up.cell b o hb
theorem Ext.frozen_eq {w : World} (i : Ext w) (b o : Nat) (hb : b < w.heap.size) : i.w.frozen? ⟨b, o, none⟩ = w.frozen? ⟨b, o, none⟩ := i.up.frozen b o hb
attribute [go_sem] Ext.cell_eq Ext.frozen_eq

/-- A region that draws its order, whose operations only read and whose callees only make memory: one walk in the text's order. -/
theorem wp_region_ext {P : Program} {id : Nat} {Q : Exit → Act → World → Prop} {a : Act} {w : World} {l : List Oper} (hm : P.follows .mixedOrders = true) (hB : Region.lexB .any l.toArray = true)
    (h : wpQuiet P l.toArray (fun x => ∃ i : Ext w, x = i.w) (fun a' => ∀ x, Up w x → Q .normal a' x) l a) : (Code.region id l.toArray true).wp P Q a w := by
  have e : (fun a' => ∀ x, Up w x → Q .normal a' x) = (fun a' => ∀ x, (∃ i : Ext w, x = i.w) → Q .normal a' x) := by
    funext a'
    exact propext ⟨fun H x ⟨i, hi⟩ => hi ▸ H i.w i.up, fun H x hx => H x ⟨⟨x, hx⟩, rfl⟩⟩
  rw [e] at h
  exact wp_region_quiet hm hB ⟨⟨{ w with drawn := w.drawn + 1 }, (Up.refl w).drew⟩, rfl⟩ h

/-- A callee's contract, met inside such a region. -/
theorem Calls.ext_of {P : Program} {f : FuncId} {args : Array Value} {w : World} {i : Ext w} {v : Value}
    (h : Calls P f args i.w fun e x => e = .returned v ∧ Up i.w x) : Calls P f args i.w fun e x => e = .returned v ∧ ∃ j : Ext w, x = j.w :=
  h.mono fun _ x ⟨he, hx⟩ => ⟨he, ⟨x, i.up.trans hx⟩, rfl⟩
end Go.Proofs.YtpccaifhcmcegaaGreat
end

section
namespace Go.Proofs.YtpccaifhcmcegaaGreat
set_option linter.unusedSimpArgs false
open Go.ChangeShapes Go.WideShapes Go.ChangeAt Go.RowKit
set_option linter.unusedVariables false

/-- A slice of structs of k one-cell fields that reads as f. -/
structure SlAt (w : World) (v : Value) (len k : Nat) (f : Nat → Nat → Value) : Prop where
  ex : ∃ (a : Option Addr) (cap : Nat), v = .slice a len cap ∧ (a = none → len = 0) ∧ ∀ x, a = some x → 0 < len → x.spot = none ∧ x.block < w.heap.size ∧ ∀ i j, i < len → j < k → w.cell? ⟨x.block, x.off + i * k + j, none⟩ = some (f i j)
  max : len ≤ 9223372036854775807

theorem SlAt.up {w w' : World} {v : Value} {len k : Nat} {f : Nat → Nat → Value} (h : SlAt w v len k f) (u : Up w w') : SlAt w' v len k f := by
  obtain ⟨⟨a, cap, hv, h0, h1⟩, h2⟩ := h
  refine ⟨⟨a, cap, hv, h0, fun x hx hl => ?_⟩, h2⟩
  obtain ⟨g1, g2, g3⟩ := h1 x hx hl
  exact ⟨g1, Nat.lt_of_lt_of_le g2 u.size, fun i j hi hj => (u.cell _ _ g2).trans (g3 i j hi hj)⟩

theorem SlAt.congr {w : World} {v : Value} {len k : Nat} {f g : Nat → Nat → Value} (h : SlAt w v len k f) (e : ∀ i j, i < len → j < k → f i j = g i j) : SlAt w v len k g := by
  obtain ⟨⟨a, cap, hv, h0, h1⟩, h2⟩ := h
  refine ⟨⟨a, cap, hv, h0, fun x hx hl => ?_⟩, h2⟩
  obtain ⟨g1, g2, g3⟩ := h1 x hx hl
  exact ⟨g1, g2, fun i j hi hj => by rw [← e i j hi hj]; exact g3 i j hi hj⟩

theorem SlAt.nil (w : World) (k : Nat) (f : Nat → Nat → Value) : SlAt w (.slice none 0 0) 0 k f := ⟨⟨none, 0, rfl, fun _ => rfl, fun x hx => nomatch hx⟩, by decide⟩

theorem add_lit_ne (b o k : Nat) : (⟨b, o, none⟩ : Addr).add k = ⟨b, o + k, none⟩ := by
  simp only [Addr.add]
  split
  · rename_i h; rw [h]; rfl
  · rfl

/-- All cells, in their order. -/
def flat (f : Nat → Nat → Value) (len k : Nat) : List Value := (List.range (len * k)).map fun q => f (q / k) (q % k)
theorem flat_length (f : Nat → Nat → Value) (len k : Nat) : (flat f len k).length = len * k := by simp [flat]
theorem flat_get (f : Nat → Nat → Value) (len k i j : Nat) (hi : i < len) (hj : j < k) : (flat f len k)[i * k + j]? = some (f i j) := by
  have hlt : i * k + j < len * k := by
    have : (i + 1) * k ≤ len * k := Nat.mul_le_mul_right k hi
    rw [Nat.add_mul] at this; omega
  unfold flat
  rw [List.getElem?_map, List.getElem?_range hlt]
  have hd : (i * k + j) / k = i := by rw [Nat.mul_comm, Nat.mul_add_div (by omega), Nat.div_eq_of_lt hj]; rfl
  have hm : (i * k + j) % k = j := by rw [Nat.mul_comm, Nat.mul_add_mod, Nat.mod_eq_of_lt hj]
  simp [hd, hm]
theorem flat_one (f : Nat → Nat → Value) (len : Nat) : flat f len 1 = (List.range len).map fun q => f q 0 := by
  simp only [flat, Nat.mul_one, Nat.div_one]
  refine List.map_congr_left fun a _ => ?_
  rw [Nat.mod_one]

theorem run_append_sl {P : Program} (w : World) (base : Nat) (t ty e : TypeId) (i : TypeInfo) (z : Value) (size bytes : Nat) (ht : P.underlying t = some (.slice e)) (hi : P.info? e = some i) (hz : i.zero = some z)
    (hsize : i.size = size) (hby : i.bytes = bytes) (hzs : z.cells.size = size) (hsz : 0 < size)
    (v : Value) (n : Nat) (xs : List Value) (hown : w.ownsRow base e size v n xs) (x : Value) (m : Nat) (f : Nat → Nat → Value) (hx : SlAt w x m size f) (h1 : ∀ i j, i < m → j < size → (f i j).oneCell' = true)
    (h63 : n + m ≤ maxLen) (hbytes : (n + m) * bytes ≤ 140737488355328) (hbase : base ≤ w.heap.size) :
    ∃ v' w', (Builtin.append_ #[t, t] ty #[v, x]).run P w = .ok v' w' ∧ w'.ownsRow base e size v' (n + m) (xs ++ flat f m size) ∧ w.grownBy w' v.ownBlock ∧ (v'.ownBlock = v.ownBlock ∨ v'.ownBlock = some w.heap.size) ∧ (v' = .slice none 0 0 → m = 0) := by
  obtain ⟨⟨a, cap, rfl, h0, hc⟩, hmax⟩ := hx
  by_cases hm : m = 0
  · subst hm
    have hf : flat f 0 size = [] := by simp [flat]
    rw [hf]
    cases a with
    | none =>
      have hrun : (Builtin.append_ #[t, t] ty #[v, .slice none 0 cap]).run P w = .ok v w := by
        rcases hown.2 with ⟨rfl, rfl⟩ | ⟨g, cap', cur, rfl, _, _, hnc, _⟩
        · simp [Builtin.append_, run_underlying ht, sizeOf, typeInfo, hi, Builtin.lenOf, Builtin.firstCells]
        · simp [Builtin.append_, run_underlying ht, sizeOf, typeInfo, hi, Builtin.lenOf, Builtin.firstCells, hnc, storeCells]
      exact ⟨v, w, hrun, by simpa using hown, World.grownBy.refl w _, .inl rfl, fun _ => rfl⟩
    | some ad =>
      obtain ⟨v', w', hrun, h2, h3, _, h5⟩ := run_append_own_at (P := P) w base t ty e i z size bytes ht hi hz hsize hby hzs hsz v n xs hown ad 0 cap [] (by simp) (by simp) (by simp) h63 hbytes hbase
      exact ⟨v', w', hrun, h2, h3, h5, fun _ => rfl⟩
  · cases a with
    | none => exact absurd (h0 rfl) hm
    | some ad =>
      obtain ⟨s1, s2, s3⟩ := hc ad rfl (by omega)
      obtain ⟨b, o, sp⟩ := ad
      have s1' : sp = none := s1
      subst s1'
      have key : ∀ q, q < m * size → w.cell? ⟨b, o + q, none⟩ = some (f (q / size) (q % size)) := fun q hq => by
        have hd : q / size < m := Nat.div_lt_of_lt_mul (by rw [Nat.mul_comm]; exact hq)
        have := s3 (q / size) (q % size) hd (Nat.mod_lt _ hsz)
        have he : q / size * size + q % size = q := by rw [Nat.mul_comm]; exact Nat.div_add_mod q size
        rw [← this]
        congr 2
        show o + q = o + q / size * size + q % size
        omega
      obtain ⟨v', w', hrun, h2, h3, h4, h5⟩ := run_append_own_at (P := P) w base t ty e i z size bytes ht hi hz hsize hby hzs hsz v n xs hown ⟨b, o, none⟩ m cap (flat f m size) (flat_length _ _ _)
        (fun q u hu => by
          rw [add_lit_ne]
          have hq : q < m * size := by
            have := (List.getElem?_eq_some_iff.1 hu).1
            rwa [flat_length] at this
          rw [key q hq]
          unfold flat at hu
          rw [List.getElem?_map, List.getElem?_range hq] at hu
          exact hu)
        (fun u hu => by
          unfold flat at hu
          obtain ⟨q, hq, rfl⟩ := List.mem_map.1 hu
          have hq' := List.mem_range.1 hq
          exact h1 _ _ (Nat.div_lt_of_lt_mul (by rw [Nat.mul_comm]; exact hq')) (Nat.mod_lt _ hsz))
        h63 hbytes hbase
      exact ⟨v', w', hrun, h2, h3, h5, fun e => (h4.1 e).2⟩

theorem wp_append_sl {P : Program} (w : World) {o : Oper} {a : Act} {K : Act → World → Prop} {Q : Exit → Act → World → Prop} (s x : Operand) (t : TypeId)
    (ho : o.op = .call { callee := .builtin .append, args := #[s, x], argTypes := #[t, t] })
    (base : Nat) (e : TypeId) (i : TypeInfo) (z : Value) (size bytes : Nat) (ht : P.underlying t = some (.slice e)) (hi : P.info? e = some i) (hz : i.zero = some z)
    (hsize : i.size = size) (hby : i.bytes = bytes) (hzs : z.cells.size = size) (hsz : 0 < size)
    (v : Value) (n : Nat) (xs : List Value) (hs : a.eval s = v) (hown : w.ownsRow base e size v n xs) (xv : Value) (m : Nat) (f : Nat → Nat → Value) (hxv : a.eval x = xv) (hx : SlAt w xv m size f) (h1 : ∀ i j, i < m → j < size → (f i j).oneCell' = true)
    (h63 : n + m ≤ maxLen) (hbytes : (n + m) * bytes ≤ 140737488355328) (hbase : base ≤ w.heap.size)
    (h : ∀ v' w', w'.ownsRow base e size v' (n + m) (xs ++ flat f m size) → w.grownBy w' v.ownBlock → (v'.ownBlock = v.ownBlock ∨ v'.ownBlock = some w.heap.size) → (v' = .slice none 0 0 → m = 0) → K (a.put o.dst v') w') : o.wp P a w K Q := by
  obtain ⟨v', w', hrun, h2, h3, h4, h5⟩ := run_append_sl (P := P) w base t o.type e i z size bytes ht hi hz hsize hby hzs hsz v n xs hown xv m f hx h1 h63 hbytes hbase
  unfold Oper.wp execOp
  simp only [ho, resolve, invoke, builtin, Sem.run_bind, Sem.run_pure, Result.andThen_ok, List.map_toArray, List.map_cons, List.map_nil, hs, hxv, hrun]
  exact h v' w' h2 h3 h4 h5

theorem wpList_append_sl {P : Program} (w : World) {ops : Array Oper} {rest : List Oper} {o : Oper} {a : Act} {Q : Exit → Act → World → Prop} (hgd : o.guard = none) (s x : Operand) (t : TypeId)
    (ho : o.op = .call { callee := .builtin .append, args := #[s, x], argTypes := #[t, t] })
    (base : Nat) (e : TypeId) (i : TypeInfo) (z : Value) (size bytes : Nat) (ht : P.underlying t = some (.slice e)) (hi : P.info? e = some i) (hz : i.zero = some z)
    (hsize : i.size = size) (hby : i.bytes = bytes) (hzs : z.cells.size = size) (hsz : 0 < size)
    (v : Value) (n : Nat) (xs : List Value) (hs : a.eval s = v) (hown : w.ownsRow base e size v n xs) (xv : Value) (m : Nat) (f : Nat → Nat → Value) (hxv : a.eval x = xv) (hx : SlAt w xv m size f) (h1 : ∀ i j, i < m → j < size → (f i j).oneCell' = true)
    (h63 : n + m ≤ maxLen) (hbytes : (n + m) * bytes ≤ 140737488355328) (hbase : base ≤ w.heap.size)
    (h : ∀ v' w', w'.ownsRow base e size v' (n + m) (xs ++ flat f m size) → w.grownBy w' v.ownBlock → (v'.ownBlock = v.ownBlock ∨ v'.ownBlock = some w.heap.size) → (v' = .slice none 0 0 → m = 0) → wpList P ops Q rest (a.put o.dst v') w') : wpList P ops Q (o :: rest) a w :=
  wpList_plain hgd fun _ hK => wp_append_sl w s x t ho base e i z size bytes ht hi hz hsize hby hzs hsz v n xs hs hown xv m f hxv hx h1 h63 hbytes hbase fun v' w' h2 h3 h4 h5 => hK _ _ (h v' w' h2 h3 h4 h5)

/-- A slice of the call's own reads as its list. -/
theorem SlAt.of_own {w : World} {base n k : Nat} {e : TypeId} {v : Value} {xs : List Value} {f : Nat → Nat → Value} (h : w.ownsRow base e k v n xs) (hn : n ≤ 9223372036854775807) (hf : ∀ i j, i < n → j < k → xs[i * k + j]? = some (f i j)) : SlAt w v n k f := by
  refine ⟨?_, hn⟩
  rcases h.2 with ⟨rfl, rfl⟩ | ⟨g, cap, cur, rfl, hb, hg, _⟩
  · exact ⟨none, 0, rfl, fun _ => rfl, fun x hx => nomatch hx⟩
  · refine ⟨some ⟨g, 0, none⟩, cap, rfl, (fun e => nomatch e), fun x hx hl => ?_⟩
    cases hx
    refine ⟨rfl, (Array.getElem?_eq_some_iff.1 hg).1, fun i j hi hj => ?_⟩
    have := h.cells (g := g) rfl _ _ (hf i j hi hj)
    rw [add_lit_ne] at this
    rw [← this]
    congr 2
    show 0 + i * k + j = 0 + (i * k + j)
    omega

theorem own_get {w : World} {base n k : Nat} {e : TypeId} {v : Value} {xs : List Value} (h : w.ownsRow base e k v n xs) (hn : 0 < n) :
    ∃ g cap, v = .slice (some ⟨g, 0, none⟩) n cap ∧ base ≤ g ∧ g < w.heap.size ∧ n ≤ cap ∧ (∀ o, w.frozen? ⟨g, o, none⟩ = false) ∧ ∀ q u, xs[q]? = some u → w.cell? ⟨g, q, none⟩ = some u := by
  rcases h.2 with ⟨_, h0⟩ | ⟨g, cap, cur, rfl, hb, hg, hnc, _⟩
  · omega
  · refine ⟨g, cap, rfl, hb, (Array.getElem?_eq_some_iff.1 hg).1, hnc, fun o => frozen_of_row _ _ _ _ _ hg, fun q u hq => ?_⟩
    have := h.cells (g := g) rfl _ _ hq
    rw [add_lit_ne] at this
    rw [← this]; simp

theorem own_slice {w : World} {base n k : Nat} {e : TypeId} {v : Value} {xs : List Value} (h : w.ownsRow base e k v n xs) : ∃ a cap, v = .slice a n cap := by
  rcases h.2 with ⟨rfl, rfl⟩ | ⟨g, cap, cur, rfl, _⟩
  · exact ⟨none, 0, rfl⟩
  · exact ⟨some ⟨g, 0, none⟩, cap, rfl⟩

/-- A store into a slice of the call's own. -/
theorem own_set {w : World} {base n k g cap : Nat} {e : TypeId} {xs : List Value} (h : w.ownsRow base e k (.slice (some ⟨g, 0, none⟩) n cap) n xs) (q : Nat) (hq : q < xs.length) (u : Value) :
    (w.setCell ⟨g, q, none⟩ u).ownsRow base e k (.slice (some ⟨g, 0, none⟩) n cap) n (xs.set q u) := by
  refine ⟨by rw [List.length_set]; exact h.1, ?_⟩
  rcases h.2 with ⟨hv, h0⟩ | ⟨g', cap', cur, hv, hb, hg, hnc, hcm, hcs, ht⟩
  · cases hv
  · cases hv
    have hqn : q < n * k := by rw [← h.1]; exact hq
    refine .inr ⟨g, cap, cur.setIfInBounds q u, rfl, hb, ?_, hnc, hcm, by simpa using hcs, ?_⟩
    · simp [World.setCell, Array.getElem?_modify, hg]
    · rw [← ht]
      simp [List.take_set]

theorem grown_up {w w' : World} {row : Option Nat} (h : w.grownBy w' row) (hr : ∀ k, row = some k → w.heap.size ≤ k) : Up w w' :=
  ⟨h.os, h.tape, h.output, h.size, fun i hi => h.block i hi (fun e => by have := hr i e.symm; omega)⟩
theorem Up.grown {w0 w w' : World} {row : Option Nat} (k : Up w0 w) (h : w.grownBy w' row) (hr : ∀ g, row = some g → w0.heap.size ≤ g) : Up w0 w' := Below.grown k h k.size hr
end Go.Proofs.YtpccaifhcmcegaaGreat
end

section
namespace Go.Proofs.YtpccaifhcmcegaaGreat
set_option linter.unusedSimpArgs false
open Go.ChangeShapes Go.WideShapes Go.ChangeAt Go.RowKit
set_option linter.unusedVariables false

/-- The world only grew, but for block b. -/
structure UpBut (b : Nat) (w w' : World) : Prop where
  os : w'.os = w.os
  tape : w'.tape = w.tape
  output : w'.output = w.output
  size : w.heap.size ≤ w'.heap.size
  block : ∀ k, k < w.heap.size → k ≠ b → w'.heap[k]? = w.heap[k]?

theorem UpBut.refl (b : Nat) (w : World) : UpBut b w w := ⟨rfl, rfl, rfl, Nat.le_refl _, fun _ _ _ => rfl⟩
theorem Up.but {w w' : World} (h : Up w w') (b : Nat) : UpBut b w w' := ⟨Below.os h, Below.tape h, Below.output h, Below.size h, fun k hk _ => Below.block h k hk⟩
theorem UpBut.trans {b : Nat} {x y z : World} (h : UpBut b x y) (k : UpBut b y z) : UpBut b x z :=
  ⟨k.os.trans h.os, k.tape.trans h.tape, k.output.trans h.output, Nat.le_trans h.size k.size, fun i hi hb => (k.block i (Nat.lt_of_lt_of_le hi h.size) hb).trans (h.block i hi hb)⟩
theorem UpBut.setCell {b : Nat} {w w' : World} (h : UpBut b w w') (o : Nat) (s : Option Nat) (v : Value) : UpBut b w (w'.setCell ⟨b, o, s⟩ v) :=
  h.trans ⟨rfl, rfl, rfl, by simp [World.setCell], fun k hk hb => Below.heap_setCell _ _ _ _ hb⟩
/-- A block of the call's own, laid behind, is no block that was there. -/
theorem UpBut.up {b : Nat} {w w1 w2 : World} (h : Up w w1) (hb : w.heap.size ≤ b) (k : UpBut b w1 w2) : Up w w2 :=
  ⟨k.os.trans (Below.os h), k.tape.trans (Below.tape h), k.output.trans (Below.output h), Nat.le_trans (Below.size h) k.size, fun i hi => (k.block i (Nat.lt_of_lt_of_le hi (Below.size h)) (by omega)).trans (Below.block h i hi)⟩
theorem UpBut.cell {b : Nat} {w w' : World} (h : UpBut b w w') (k o : Nat) (hk : k < w.heap.size) (hb : k ≠ b) : w'.cell? ⟨k, o, none⟩ = w.cell? ⟨k, o, none⟩ :=
  World.cell?_of_block (w := w) (h.block k hk hb)

theorem set_ne (w : World) (b o o' : Nat) (v : Value) (h : o ≠ o') : (w.setCell ⟨b, o, none⟩ v).cell? ⟨b, o', none⟩ = w.cell? ⟨b, o', none⟩ := World.cell?_setCell_other _ _ _ _ (fun e => h (congrArg Addr.off e))
theorem set_eq (w : World) (b o : Nat) (v u : Value) (h : w.cell? ⟨b, o, none⟩ = some u) : (w.setCell ⟨b, o, none⟩ v).cell? ⟨b, o, none⟩ = some v := World.cell?_setCell_same _ _ _ h
theorem set_size (w : World) (a : Addr) (v : Value) : (w.setCell a v).heap.size = w.heap.size := by simp [World.setCell]
end Go.Proofs.YtpccaifhcmcegaaGreat
end
