/-
  Data that keep their reading whatever becomes of a set of blocks: for rows that are filled in place, and deep copies.
-/
import Derived.Test.YtpccaifhcmcegaaDgN
namespace Go.Proofs.Ytpccaifhcmcegaa
set_option linter.unusedSimpArgs false
open Go.ChangeShapes Go.WideShapes Go.ChangeAt Go.RowKit
set_option linter.unusedVariables false
set_option maxRecDepth 100000

/-- The later world agrees with the earlier one outside the blocks of X. -/
structure Kp (X : Nat → Prop) (w w' : World) : Prop where
  os : w'.os = w.os
  tape : w'.tape = w.tape
  output : w'.output = w.output
  size : w.heap.size ≤ w'.heap.size
  block : ∀ i, i < w.heap.size → ¬ X i → w'.heap[i]? = w.heap[i]?
theorem Kp.refl (X : Nat → Prop) (w : World) : Kp X w w := ⟨rfl, rfl, rfl, Nat.le_refl _, fun _ _ _ => rfl⟩
theorem Kp.of_up {X : Nat → Prop} {w w' : World} (h : Up w w') : Kp X w w' := ⟨Below.os h, Below.tape h, Below.output h, Below.size h, fun i hi _ => Below.block h i hi⟩
theorem Kp.of_by {X : Nat → Prop} {w w' : World} {row : Option Nat} (h : w.grownBy w' row) (hX : ∀ g, row = some g → X g) : Kp X w w' := ⟨h.os, h.tape, h.output, h.size, fun i hi hx => h.block i hi fun e => hx (hX i e.symm)⟩
theorem Kp.trans {X Y Z : Nat → Prop} {a b c : World} (h : Kp X a b) (k : Kp Y b c) (hX : ∀ i, i < a.heap.size → X i → Z i) (hY : ∀ i, i < a.heap.size → Y i → Z i) : Kp Z a c :=
  ⟨k.os.trans h.os, k.tape.trans h.tape, k.output.trans h.output, Nat.le_trans h.size k.size, fun i hi hz => (k.block i (Nat.lt_of_lt_of_le hi h.size) (fun y => hz (hY i hi y))).trans (h.block i hi fun x => hz (hX i hi x))⟩
theorem Kp.after {X : Nat → Prop} {w0 w w' : World} (u : Up w0 w) (h : Kp X w w') (hX : ∀ i, i < w0.heap.size → ¬ X i) : Up w0 w' :=
  ⟨h.os.trans (Below.os u), h.tape.trans (Below.tape u), h.output.trans (Below.output u), Nat.le_trans u.size h.size, fun i hi => (h.block i (Nat.lt_of_lt_of_le hi u.size) (hX i hi)).trans (Below.block u i hi)⟩
/-- P holds in every world that agrees outside X. -/
def Fr (X : Nat → Prop) (P : World → Prop) (w : World) : Prop := ∀ w', Kp X w w' → P w'
theorem Fr.here {X : Nat → Prop} {P : World → Prop} {w : World} (h : Fr X P w) : P w := h w (Kp.refl X w)
theorem Fr.to {X Y Z : Nat → Prop} {P : World → Prop} {w w' : World} (h : Fr X P w) (k : Kp Y w w') (hY : ∀ i, i < w.heap.size → Y i → X i) (hZ : ∀ i, i < w.heap.size → Z i → X i) : Fr Z P w' :=
  fun x hx => h x (k.trans hx hY hZ)
theorem Fr.less {X Z : Nat → Prop} {P : World → Prop} {w : World} (h : Fr X P w) (hZ : ∀ i, i < w.heap.size → Z i → X i) : Fr Z P w := fun x hx => h x ((Kp.refl X w).trans hx (fun _ _ h => h) hZ)
theorem Fr.up {X : Nat → Prop} {P : World → Prop} {w w' : World} (h : Fr X P w) (u : Up w w') : Fr X P w' := h.to (Kp.of_up (X := X) u) (fun _ _ h => h) (fun _ _ h => h)
theorem Fr.kp {X Y : Nat → Prop} {P : World → Prop} {w w' : World} (h : Fr X P w) (k : Kp Y w w') (hY : ∀ i, i < w.heap.size → Y i → X i) : Fr X P w' := h.to k hY (fun _ _ h => h)
theorem Fr.by {X : Nat → Prop} {P : World → Prop} {w w' : World} {row : Option Nat} (h : Fr X P w) (k : w.grownBy w' row) (hY : ∀ g, row = some g → X g) : Fr X P w' := h.kp (Kp.of_by k hY) (fun _ _ h => h)
theorem Fr.wide {X : Nat → Prop} {P : World → Prop} {w w' : World} (h : Fr X P w) (u : Up w w') : Fr (fun b => X b ∨ w.heap.size ≤ b) P w' := h.to (Kp.of_up (X := X) u) (fun _ _ h => h) (fun i hi h => h.elim id fun h => by omega)
theorem Fr.mono {X : Nat → Prop} {P Q : World → Prop} {w : World} (h : Fr X P w) (hPQ : ∀ w', P w' → Q w') : Fr X Q w := fun x hx => hPQ x (h x hx)
theorem Fr.and {X : Nat → Prop} {P Q : World → Prop} {w : World} (h : Fr X P w) (k : Fr X Q w) : Fr X (fun y => P y ∧ Q y) w := fun x hx => ⟨h x hx, k x hx⟩
theorem Fr.of {P : World → Prop} {w : World} (h : P w) (hP : ∀ w', P w → Up w w' → P w') : Fr (fun b => w.heap.size ≤ b) P w := fun x hx => hP x h (hx.after (Up.refl w) fun i hi h => by omega)
theorem Fr.ofR {α : Type} {R : Rel α} (hR : UpR R) {w : World} {f : Nat → Value} {x : α} (h : R w f x) : Fr (fun b => w.heap.size ≤ b) (fun y => R y f x) w := Fr.of h fun w' h u => hR _ _ _ _ h u

/-! ### Rows -/
/-- A block that is emptied. -/
def wipe (w : World) (g : Nat) : World := { w with heap := w.heap.setIfInBounds g (.cells #[] 0 (0, 0)) }
theorem wipe_kp {X : Nat → Prop} {w : World} {g : Nat} (hg : X g) : Kp X w (wipe w g) :=
  ⟨rfl, rfl, rfl, by simp [wipe], fun i hi hx => by
    show (w.heap.setIfInBounds g _)[i]? = _
    rw [Array.getElem?_setIfInBounds_ne (fun e : g = i => hx (e ▸ hg))]⟩
theorem wipe_cell {w : World} {g : Nat} (hg : g < w.heap.size) (o : Nat) : (wipe w g).cell? ⟨g, o, none⟩ = none := by
  have h : (wipe w g).heap[g]? = some (.cells #[] 0 (0, 0)) := by
    show (w.heap.setIfInBounds g _)[g]? = _
    rw [Array.getElem?_setIfInBounds_self_of_lt hg]
  rw [cell_of_row _ _ _ _ _ _ h]; rfl
theorem Fr.sl {X : Nat → Prop} {w : World} {v : Value} {n k : Nat} (hk : 0 < k) (h : Fr X (fun y => ∃ F, SlAt y v n k F) w) {F : Nat → Nat → Value} (hF : SlAt w v n k F) : Fr X (fun y => SlAt y v n k F) w := by
  intro w' hw'
  obtain ⟨F', h'⟩ := h w' hw'
  obtain ⟨⟨a, c, rfl, h0, hx⟩, hm⟩ := hF
  obtain ⟨⟨a', c', e', h0', hx'⟩, hm'⟩ := h'
  cases e'
  refine ⟨⟨a, c, rfl, h0, fun x hxa hl => ?_⟩, hm⟩
  obtain ⟨g1, g2, g3⟩ := hx x hxa hl
  have hnX : ¬ X x.block := fun hX => by
    obtain ⟨F2, ⟨a2, c2, e2, _, hx2⟩, _⟩ := h _ (wipe_kp hX)
    cases e2
    have := (hx2 x hxa hl).2.2 0 0 hl hk
    rw [wipe_cell g2] at this
    cases this
  exact ⟨g1, Nat.lt_of_lt_of_le g2 hw'.size, fun i j hi hj => (World.cell?_of_block (w := w) (a := ⟨x.block, x.off + i * k + j, none⟩) (hw'.block _ g2 hnX)).trans (g3 i j hi hj)⟩
theorem SlAt.agree {w : World} {v : Value} {n k : Nat} {F G : Nat → Nat → Value} (h : SlAt w v n k F) (h' : SlAt w v n k G) (i j : Nat) (hi : i < n) (hj : j < k) : F i j = G i j := by
  obtain ⟨⟨a, c, rfl, h0, hx⟩, hm⟩ := h
  obtain ⟨⟨a', c', e', h0', hx'⟩, hm'⟩ := h'
  cases e'
  cases a with
  | none => have := h0 rfl; omega
  | some x =>
    have h1 := (hx x rfl (by omega)).2.2 i j hi hj
    have h2 := (hx' x rfl (by omega)).2.2 i j hi hj
    rw [h1] at h2
    exact Option.some.inj h2
/-- A row's elements, each with its own part of the memory. -/
theorem Fr.ls {α : Type} {X : Nat → Prop} {k B : Nat} {R : Rel α} (hR : Rk k R) (hk : 0 < k) {w : World} {v : Value} {l : List α} (h : Fr X (fun y => LsAt k B R y v l) w) :
    ∃ F : Nat → Nat → Value, Fr X (fun y => SlAt y v l.length k F) w ∧ ∀ i (hi : i < l.length), Fr X (fun y => R y (F i) l[i]) w := by
  obtain ⟨h1, hb, F, hs, he⟩ := h.here
  have hS : Fr X (fun y => SlAt y v l.length k F) w := Fr.sl hk (h.mono fun y hy => let ⟨_, _, F', h', _⟩ := hy; ⟨F', h'⟩) hs
  refine ⟨F, hS, fun i hi y hy => ?_⟩
  obtain ⟨_, _, F', h', he'⟩ := h y hy
  exact hR.congr _ _ _ _ (he' i hi) fun j hj => (SlAt.agree (hS y hy) h' i j hi hj).symm
theorem Fr.mkLs {α : Type} {X : Nat → Prop} {k B : Nat} {R : Rel α} {w : World} {v : Value} {l : List α} {F : Nat → Nat → Value} (h1 : ∃ a c, v = .slice a l.length c ∧ l.length ≤ c) (hb : l.length * B ≤ 140737488351232) (hS : Fr X (fun y => SlAt y v l.length k F) w) (hE : ∀ i (hi : i < l.length), Fr X (fun y => R y (F i) l[i]) w) :
    Fr X (fun y => LsAt k B R y v l) w := fun y hy => ⟨h1, hb, F, hS y hy, fun i hi => hE i hi y hy⟩
theorem Fr.lsLen {α : Type} {X : Nat → Prop} {k B : Nat} {R : Rel α} {w : World} {v : Value} {l : List α} (h : Fr X (fun y => LsAt k B R y v l) w) : (∃ a c, v = .slice a l.length c ∧ l.length ≤ c) ∧ l.length * B ≤ 140737488351232 := ⟨h.here.1, h.here.2.1⟩

/-! ### Own rows -/
theorem own_kp {X : Nat → Prop} {w w' : World} {base n k : Nat} {e : TypeId} {v : Value} {xs : List Value} (h : w.ownsRow base e k v n xs) (hk : Kp X w w') (hX : ∀ g, v.ownBlock = some g → ¬ X g) : w'.ownsRow base e k v n xs := by
  refine ⟨h.1, ?_⟩
  rcases h.2 with ⟨hv, h0⟩ | ⟨g, cap, cur, hv, hb, hg, hr⟩
  · exact .inl ⟨hv, h0⟩
  · exact .inr ⟨g, cap, cur, hv, hb, (hk.block g (Array.getElem?_eq_some_iff.1 hg).1 (hX g (by rw [hv]; rfl))).trans hg, hr⟩
theorem own_fr {X : Nat → Prop} {w : World} {base n k : Nat} {e : TypeId} {v : Value} {F : Nat → Nat → Value} (h : w.ownsRow base e k v n (flat F n k)) (hn : n ≤ 9223372036854775807) (hX : ∀ g, v.ownBlock = some g → ¬ X g) : Fr X (fun y => SlAt y v n k F) w :=
  fun y hy => SlAt.of_own (own_kp h hy hX) hn fun i j hi hj => flat_get F _ _ _ _ hi hj
theorem own_lt {w : World} {base n k : Nat} {e : TypeId} {v : Value} {xs : List Value} (h : w.ownsRow base e k v n xs) : ∀ g, v.ownBlock = some g → g < w.heap.size := fun g hg => by
  rcases h.2 with ⟨rfl, _⟩ | ⟨g', cap, cur, rfl, hb, hh, _⟩
  · cases hg
  · cases hg; exact (Array.getElem?_eq_some_iff.1 hh).1
/-- An own row whose elements lie outside A and outside the row itself. -/
def OwnX {α : Type} (k : Nat) (R : Rel α) (A : Nat → Prop) (base : Nat) (e : TypeId) (w : World) (v : Value) (l : List α) : Prop :=
  ∃ F : Nat → Nat → Value, w.ownsRow base e k v l.length (flat F l.length k) ∧ ∀ i (h : i < l.length), Fr (fun b => A b ∨ v.ownBlock = some b) (fun y => R y (F i) l[i]) w
section
variable {α : Type} {k : Nat} {R : Rel α} {A : Nat → Prop} {base : Nat} {e : TypeId} {w w' : World} {v : Value} {l : List α}
theorem OwnX.nil : OwnX k R A base e w (.slice none 0 0) [] :=
  ⟨fun _ _ => undef, by have := World.ownsRow_nil (w := w) (base := base) (e := e) (size := k); simpa [flat] using this, fun i h => absurd h (Nat.not_lt_zero _)⟩
theorem OwnX.shape (h : OwnX k R A base e w v l) : ∃ a c, v = .slice a l.length c := let ⟨F, h1, _⟩ := h; own_slice h1
theorem OwnX.low (h : OwnX k R A base e w v l) : ∀ g, v.ownBlock = some g → base ≤ g := let ⟨F, h1, _⟩ := h; own_base h1
theorem OwnX.lt (h : OwnX k R A base e w v l) : ∀ g, v.ownBlock = some g → g < w.heap.size := let ⟨F, h1, _⟩ := h; own_lt h1
theorem OwnX.kp {Y A' : Nat → Prop} (h : OwnX k R A base e w v l) (hk : Kp Y w w') (hY : ∀ i, i < w.heap.size → Y i → A i) (hv : ∀ g, v.ownBlock = some g → ¬ Y g) (hA : ∀ i, i < w.heap.size → A' i → A i) : OwnX k R A' base e w' v l :=
  let ⟨F, h1, h2⟩ := h
  ⟨F, own_kp h1 hk hv, fun i hi => (h2 i hi).to hk (fun i h y => .inl (hY i h y)) (fun i h z => z.imp (hA i h) id)⟩
theorem OwnX.up (h : OwnX k R A base e w v l) (u : Up w w') : OwnX k R A base e w' v l := h.kp (Kp.of_up (X := fun _ => False) u) (fun _ _ h => h.elim) (fun _ _ h => h) (fun _ _ h => h)
theorem OwnX.ls {B : Nat} (h : OwnX k R A base e w v l) (hA : ∀ b, A b → b < base) (hB : 1 ≤ B) (hb : l.length * B ≤ 140737488351232) : Fr A (fun y => LsAt k B R y v l) w := by
  obtain ⟨F, h1, h2⟩ := h
  obtain ⟨a, c, rfl⟩ := own_slice h1
  have : l.length * 1 ≤ l.length * B := Nat.mul_le_mul_left _ hB
  exact Fr.mkLs ⟨a, c, rfl, own_cap h1⟩ hb (own_fr h1 (by omega) fun g hg hX => by have := own_base h1 g hg; have := hA g hX; omega) fun i hi => (h2 i hi).less fun _ _ h => .inl h
end
/-- One new element. -/
theorem OwnX.app1 {α : Type} {k : Nat} {R : Rel α} {A : Nat → Prop} (hk : 0 < k) {base : Nat} {e : TypeId} {w w' : World} {v v' : Value} {l : List α} {x : α} {F G : Nat → Nat → Value}
    (h : w'.ownsRow base e k v' (l.length + 1) (flat F l.length k ++ flat G 1 k)) (hF : ∀ i (h : i < l.length), Fr (fun b => A b ∨ v.ownBlock = some b) (fun y => R y (F i) l[i]) w) (hG : Fr (fun b => A b ∨ v.ownBlock = some b) (fun y => R y (G 0) x) w)
    (hg : w.grownBy w' v.ownBlock) (hb : v'.ownBlock = v.ownBlock ∨ v'.ownBlock = some w.heap.size) : OwnX k R A base e w' v' (l ++ [x]) := by
  have key : ∀ f y, Fr (fun b => A b ∨ v.ownBlock = some b) (fun z => R z f y) w → Fr (fun b => A b ∨ v'.ownBlock = some b) (fun z => R z f y) w' := fun f y hf => by
    refine hf.to (Kp.of_by (X := fun b => v.ownBlock = some b) hg fun g h => h) (fun _ _ h => .inr h) (fun i hi h => ?_)
    rcases h with h | h
    · exact .inl h
    · rcases hb with hb | hb
      · exact .inr (hb.symm.trans h)
      · rw [hb] at h; cases h; omega
  refine ⟨both F G l.length, ?_, fun i hi => ?_⟩
  · rw [List.length_append, List.length_singleton, ← flat_app _ _ _ _ _ hk]; exact h
  · rw [List.length_append, List.length_singleton] at hi
    by_cases h1 : i < l.length
    · rw [List.getElem_append_left h1, show both F G l.length i = F i from funext fun j => if_pos h1]
      exact key _ _ (hF i h1)
    · obtain rfl : i = l.length := by omega
      have e1 : (l ++ [x])[l.length]'(by simp) = x := by simp
      rw [e1, show both F G l.length l.length = G 0 from funext fun j => by show (if _ then _ else _) = _; rw [if_neg (Nat.lt_irrefl _), Nat.sub_self]]
      exact key _ _ hG
/-- One struct as a slice, its cells open. -/
theorem SlAt.one {w : World} {b : Nat} {E : TypeId} {cs : Array Value} {k : Nat} (hs : cs.size = k) (h : w.heap[b]? = some (.cells cs E (0, 0))) : SlAt w (.slice (some ⟨b, 0, none⟩) 1 1) 1 k (fun _ j => cs.getD j undef) := by
  refine ⟨⟨_, _, rfl, (fun h => nomatch h), fun y hy _ => ?_⟩, by decide⟩
  cases hy
  refine ⟨rfl, (Array.getElem?_eq_some_iff.1 h).1, fun i j hi hj => ?_⟩
  obtain rfl : i = 0 := by omega
  rw [cell_of_row _ _ _ _ _ _ h, Nat.zero_mul, Nat.add_zero, Nat.zero_add, Array.getD_eq_getD_getElem?, Array.getElem?_eq_getElem (by omega)]; rfl
section
variable {ops : Array Oper} {rest : List Oper} {a : Act} {Q : Exit → Act → World → Prop} {w : World}
/-- append(x, d), x a row of the call's own, d laid as a row of one. -/
theorem st_app1 {α : Type} {T E : TypeId} {k B : Nat} (hT : RowT T E k B) {R : Rel α} (hR : Rk k R) {A : Nat → Prop} {base b : Nat} {v : Value} {l : List α} {x : α} {cs : Array Value} {n : Nat} (hn : l.length = n)
    (H : OwnX k R A base E w v l) (hs : cs.size = k) (hbx : w.heap[b]? = some (.cells cs E (0, 0))) (S : Fr (fun b => A b ∨ v.ownBlock = some b) (fun y => R y (fun j => cs.getD j undef) x) w) (hb : (n + 1) * B ≤ 140737488355328) (hB : 1 ≤ B) (hbase : base ≤ w.heap.size) {dst : Option Nat} {p y : Operand} {ty : TypeId} {pos : String} {af : Array Edge} (hp : a.eval p = v) (hy : a.eval y = .slice (some ⟨b, 0, none⟩) 1 1)
    (K : ∀ (va : Option Addr) (vc : Nat) w', OwnX k R A base E w' (.slice va (n + 1) vc) (l ++ [x]) → w.grownBy w' v.ownBlock → ((Value.slice va (n + 1) vc).ownBlock = v.ownBlock ∨ (Value.slice va (n + 1) vc).ownBlock = some w.heap.size) → wpList Try.prog ops Q rest (a.put dst (.slice va (n + 1) vc)) w') :
    wpList Try.prog ops Q ({ dst := dst, op := .call { callee := .builtin .append, args := #[p, y], argTypes := #[T, T] }, type := ty, pos := pos, after := af, guard := none } :: rest) a w := by
  obtain ⟨i, z, i0, i1, i2, i3, i4⟩ := hT.info
  subst hn
  obtain ⟨F, hF, hE⟩ := H
  have hle : l.length + 1 ≤ maxLen := by
    have h := Nat.mul_le_mul_left (l.length + 1) hB
    have e : maxLen = 9223372036854775807 := rfl
    omega
  refine wpList_append_sl w rfl p y T rfl base E i z k B hT.sl i0 i1 i2 i3 i4 hT.pos v l.length _ hp hF _ 1 _ hy (SlAt.one hs hbx) (fun i j hi hj => hR.one _ _ _ S.here j hj) hle hb hbase fun v' w' g1 g2 g3 g4 => ?_
  obtain ⟨va, vc, rfl⟩ := own_slice g1
  exact K va vc w' (OwnX.app1 hT.pos g1 hE S g2 g3) g2 g3
end
end Go.Proofs.Ytpccaifhcmcegaa
