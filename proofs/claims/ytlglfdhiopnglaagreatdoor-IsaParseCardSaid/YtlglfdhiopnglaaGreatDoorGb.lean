/-
  Joined by a program: But, Bx, MkR, PeR, PeC.
-/
import Derived.Test.YtlglfdhiopnglaaGreatDoorGa

section
namespace Go.Proofs.YtlglfdhiopnglaaGreatDoor
set_option linter.unusedSimpArgs false
open Go.ChangeShapes Go.WideShapes Go.ChangeAt Go.RowKit
set_option linter.unusedVariables false

/-- The world only grew, but for block b. -/
structure UpBut (b : Nat) (w w' : World) : Prop where
  os : w'.os = w.os
  tape : w'.tape = w.tape
  output : w'.output = w.output
  size : w.heap.size ≤ w'.heap.size
  block : ∀ k, k < w.heap.size → k ≠ b → w'.heap[k]? = w.heap[k]?

theorem UpBut.refl (b : Nat) (w : World) : UpBut b w w := ⟨rfl, rfl, rfl, Nat.le_refl _, fun _ _ _ => rfl⟩
theorem Up.but {w w' : World} (h : Up w w') (b : Nat) : UpBut b w w' := ⟨Below.os h, Below.tape h, Below.output h, Below.size h, fun k hk _ => Below.block h k hk⟩
theorem UpBut.trans {b : Nat} {x y z : World} (h : UpBut b x y) (k : UpBut b y z) : UpBut b x z :=
  ⟨k.os.trans h.os, k.tape.trans h.tape, k.output.trans h.output, Nat.le_trans h.size k.size, fun i hi hb => (k.block i (Nat.lt_of_lt_of_le hi h.size) hb).trans (h.block i hi hb)⟩
theorem UpBut.setCell {b : Nat} {w w' : World} (h : UpBut b w w') (o : Nat) (s : Option Nat) (v : Value) : UpBut b w (w'.setCell ⟨b, o, s⟩ v) :=
  h.trans ⟨rfl, rfl, rfl, by simp [World.setCell], fun k hk hb => Below.heap_setCell _ _ _ _ hb⟩
/-- A block of the call's own, laid behind, is no block that was there. -/
theorem UpBut.up {b : Nat} {w w1 w2 : World} (h : Up w w1) (hb : w.heap.size ≤ b) (k : UpBut b w1 w2) : Up w w2 :=
  ⟨k.os.trans (Below.os h), k.tape.trans (Below.tape h), k.output.trans (Below.output h), Nat.le_trans (Below.size h) k.size, fun i hi => (k.block i (Nat.lt_of_lt_of_le hi (Below.size h)) (by omega)).trans (Below.block h i hi)⟩
theorem UpBut.cell {b : Nat} {w w' : World} (h : UpBut b w w') (k o : Nat) (hk : k < w.heap.size) (hb : k ≠ b) : w'.cell? ⟨k, o, none⟩ = w.cell? ⟨k, o, none⟩ :=
  World.cell?_of_block (w := w) (h.block k hk hb)

theorem set_ne (w : World) (b o o' : Nat) (v : Value) (h : o ≠ o') : (w.setCell ⟨b, o, none⟩ v).cell? ⟨b, o', none⟩ = w.cell? ⟨b, o', none⟩ := World.cell?_setCell_other _ _ _ _ (fun e => h (congrArg Addr.off e))
theorem set_eq (w : World) (b o : Nat) (v u : Value) (h : w.cell? ⟨b, o, none⟩ = some u) : (w.setCell ⟨b, o, none⟩ v).cell? ⟨b, o, none⟩ = some v := World.cell?_setCell_same _ _ _ h
theorem set_size (w : World) (a : Addr) (v : Value) : (w.setCell a v).heap.size = w.heap.size := by simp [World.setCell]
end Go.Proofs.YtlglfdhiopnglaaGreatDoor
end

section
namespace Go.Proofs.YtlglfdhiopnglaaGreatDoor
open Go.ChangeShapes Go.WideShapes Go.ChangeAt Go.RowKit
set_option linter.unusedVariables false
set_option linter.unusedSimpArgs false
set_option maxRecDepth 100000

/-- A block of cells. -/
def BoxC (w : World) (g : Nat) (t : TypeId) (cs : Array Value) : Prop := w.heap[g]? = some (.cells cs t (0, 0))
theorem BoxC.lt {w : World} {g : Nat} {t : TypeId} {cs : Array Value} (h : BoxC w g t cs) : g < w.heap.size := (Array.getElem?_eq_some_iff.1 h).1
theorem BoxC.up {w w' : World} {g : Nat} {t : TypeId} {cs : Array Value} (h : BoxC w g t cs) (u : Up w w') : BoxC w' g t cs := (u.heap g h.lt).trans h
theorem BoxC.frozen {w : World} {g : Nat} {t : TypeId} {cs : Array Value} (h : BoxC w g t cs) (o : Nat) : w.frozen? ⟨g, o, none⟩ = false := frozen_of_row _ _ _ _ _ h
theorem BoxC.new (w : World) (t : TypeId) (cs : Array Value) : BoxC (w.alloc (.cells cs t)) w.heap.size t cs := heap_alloc_new w _
theorem BoxC.new2 (w : World) (o : Obj) (t : TypeId) (cs : Array Value) : BoxC ((w.alloc o).alloc (.cells cs t)) (w.heap.size + 1) t cs := by
  have := heap_alloc_new (w.alloc o) (.cells cs t (0, 0))
  rw [show (w.alloc o).heap.size = w.heap.size + 1 by simp] at this
  exact this
theorem BoxC.new3 (w : World) (o p : Obj) (t : TypeId) (cs : Array Value) : BoxC (((w.alloc o).alloc p).alloc (.cells cs t)) (w.heap.size + 2) t cs := by
  have := heap_alloc_new ((w.alloc o).alloc p) (.cells cs t (0, 0))
  rw [show ((w.alloc o).alloc p).heap.size = w.heap.size + 2 by simp] at this
  exact this
theorem BoxC.new4 (w : World) (o p q : Obj) (t : TypeId) (cs : Array Value) : BoxC ((((w.alloc o).alloc p).alloc q).alloc (.cells cs t)) (w.heap.size + 3) t cs := by
  have := heap_alloc_new (((w.alloc o).alloc p).alloc q) (.cells cs t (0, 0))
  rw [show (((w.alloc o).alloc p).alloc q).heap.size = w.heap.size + 3 by simp] at this
  exact this
theorem BoxC.two {w : World} {g : Nat} {t : TypeId} {a b : Value} (h : BoxC w g t #[a, b]) : w.cell? ⟨g, 0, none⟩ = some a ∧ w.cell? ⟨g, 1, none⟩ = some b := ⟨cell_of_row _ _ _ _ _ _ h, cell_of_row _ _ _ _ _ _ h⟩
theorem BoxC.five {w : World} {g : Nat} {t : TypeId} {a b c d e : Value} (h : BoxC w g t #[a, b, c, d, e]) : w.cell? ⟨g, 0, none⟩ = some a ∧ w.cell? ⟨g, 1, none⟩ = some b ∧ w.cell? ⟨g, 2, none⟩ = some c ∧ w.cell? ⟨g, 3, none⟩ = some d ∧ w.cell? ⟨g, 4, none⟩ = some e :=
  ⟨cell_of_row _ _ _ _ _ _ h, cell_of_row _ _ _ _ _ _ h, cell_of_row _ _ _ _ _ _ h, cell_of_row _ _ _ _ _ _ h, cell_of_row _ _ _ _ _ _ h⟩
theorem BoxC.put {w : World} {g : Nat} {t : TypeId} {a b : Value} (h : BoxC w g t #[a, b]) (c d : Value) : BoxC ((w.setCell ⟨g, 0, none⟩ c).setCell ⟨g, 1, none⟩ d) g t #[c, d] := set_heap (o := 1) (set_heap (o := 0) h c) d
theorem BoxC.seven {w : World} {g : Nat} {t : TypeId} {a b c d e f i : Value} (h : BoxC w g t #[a, b, c, d, e, f, i]) : w.cell? ⟨g, 0, none⟩ = some a ∧ w.cell? ⟨g, 1, none⟩ = some b ∧ w.cell? ⟨g, 2, none⟩ = some c ∧ w.cell? ⟨g, 3, none⟩ = some d ∧ w.cell? ⟨g, 4, none⟩ = some e ∧ w.cell? ⟨g, 5, none⟩ = some f ∧ w.cell? ⟨g, 6, none⟩ = some i :=
  ⟨cell_of_row _ _ _ _ _ _ h, cell_of_row _ _ _ _ _ _ h, cell_of_row _ _ _ _ _ _ h, cell_of_row _ _ _ _ _ _ h, cell_of_row _ _ _ _ _ _ h, cell_of_row _ _ _ _ _ _ h, cell_of_row _ _ _ _ _ _ h⟩
theorem BoxC.ne {w : World} {g b : Nat} {t : TypeId} {cs : Array Value} (h : BoxC w g t cs) (hb : b ≠ g) (o : Nat) (u : Value) : BoxC (w.setCell ⟨b, o, none⟩ u) g t cs := by
  have e : (w.setCell ⟨b, o, none⟩ u).heap[g]? = w.heap[g]? := by simp [World.setCell, Array.getElem?_modify, hb]
  exact e.trans h
theorem wp_gen {P : Program} {c : Code} {Q : Exit → Act → World → Prop} {a : Act} {w : World} {F : World → Prop} (hF : F w) (h : ∀ v, F v → c.wp P Q a v) : c.wp P Q a w := h w hF

end Go.Proofs.YtlglfdhiopnglaaGreatDoor
end

section
namespace Go.Proofs.YtlglfdhiopnglaaGreatDoor
open Go.ChangeShapes Go.WideShapes Go.ChangeAt Go.RowKit
set_option linter.unusedVariables false
set_option linter.unusedSimpArgs false

/-- The world only grew, but for block g, which is as it was or C. -/
def Rr (g : Nat) (C : Obj) (x y : World) : Prop := UpBut g x y ∧ (y.heap[g]? = x.heap[g]? ∨ y.heap[g]? = some C)
theorem Rr.refl {g : Nat} {C : Obj} (w : World) : Rr g C w w := ⟨UpBut.refl g w, .inl rfl⟩
theorem Rr.trans {g : Nat} {C : Obj} {a b c : World} (h : Rr g C a b) (k : Rr g C b c) : Rr g C a c :=
  ⟨h.1.trans k.1, by rcases k.2 with e | e
                     · rw [e]; exact h.2
                     · exact .inr e⟩
theorem Rr.drew {g : Nat} {C : Obj} {a w : World} (h : Rr g C a w) : Rr g C a w.drew := h.trans ⟨(Up.refl w).drew.but g, .inl rfl⟩
theorem Up.rr {x y : World} (h : Up x y) (g : Nat) (C : Obj) (hg : g < x.heap.size) : Rr g C x y := ⟨h.but g, .inl (h.heap g hg)⟩
theorem Rr.lt {g : Nat} {C : Obj} {x y : World} (h : Rr g C x y) (hg : g < x.heap.size) : g < y.heap.size := Nat.lt_of_lt_of_le hg h.1.size
theorem Rr.block {g : Nat} {C : Obj} {x y : World} (h : Rr g C x y) (k : Nat) (hk : k < x.heap.size) (hne : k ≠ g) : y.heap[k]? = x.heap[k]? := h.1.block k hk hne
def ExtR (g : Nat) (C : Obj) (w : World) : Type := { x : World // Rr g C w x }
instance (g : Nat) (C : Obj) (w : World) : Nonempty (ExtR g C w) := ⟨⟨w, Rr.refl w⟩⟩
def ExtR.w {g : Nat} {C : Obj} {w : World} (i : ExtR g C w) : World := i.1
theorem ExtR.up {g : Nat} {C : Obj} {w : World} (i : ExtR g C w) : Rr g C w i.w := i.2
theorem ExtR.cell_eq {g : Nat} {C : Obj} {w : World} (i : ExtR g C w) (b o : Nat) (hb : b < w.heap.size) (hne : b ≠ g) : i.w.cell? ⟨b, o, none⟩ = w.cell? ⟨b, o, none⟩ := i.up.1.cell b o hb hne
attribute [go_sem] ExtR.cell_eq

section
variable {g : Nat} {C : Obj} {P : Program} {ops : Array Oper} {md : Region.Mode} {w : World} {M : FuncId → Array Value → Value → World → Prop}

/-- What an operation that comes up in the world x may end in: it only makes memory; a call keeps to the table of contracts M. -/
def GoodR_r (g : Nat) (C : Obj) (P : Program) (M : FuncId → Array Value → Value → World → Prop) (x : World) : Result Next → Prop
  | .ok (.value _) x1 => Rr g C x x1
  | .ok .skip x1 => Rr g C x x1
  | .ok (.enter f args) x1 => Rr g C x x1 ∧ Calls P f args x1 fun e x' => ∃ v, e = .returned v ∧ Rr g C x1 x' ∧ M f args v x'
  | _ => False
/-- The outcome v, x'. -/
def OutR_r (g : Nat) (C : Obj) (M : FuncId → Array Value → Value → World → Prop) (v : Value) (x' : World) : Result Next → Prop
  | .ok (.value u) x1 => u = v ∧ x1 = x'
  | .ok .skip x1 => v = undef ∧ x1 = x'
  | .ok (.enter f args) x1 => Rr g C x1 x' ∧ M f args v x'
  | _ => False
def GoodM_r (g : Nat) (C : Obj) (P : Program) (M : FuncId → Array Value → Value → World → Prop) (w : World) (o : Oper) (a : Act) : Prop := ∀ x, Rr g C w x → GoodR_r g C P M x ((execOp a.eval o).run P x)
def SPM_r (g : Nat) (C : Obj) (P : Program) (M : FuncId → Array Value → Value → World → Prop) (w : World) (o : Oper) (a : Act) (v : Value) (y : World) : Prop := ∃ x x', Rr g C w x ∧ OutR_r g C M v x' ((execOp a.eval o).run P x) ∧ Rr g C x' y
def mGood_r (g : Nat) (C : Obj) (P : Program) (ops : Array Oper) (M : FuncId → Array Value → Value → World → Prop) (w : World) (o : Oper) (a : Act) : Prop := Region.wanted o (yielded ops a.tmps) = true → GoodM_r g C P M w o a
def mRes_r (g : Nat) (C : Obj) (P : Program) (ops : Array Oper) (M : FuncId → Array Value → Value → World → Prop) (w : World) (o : Oper) (a : Act) (v : Value) (T : World → Prop) : Prop :=
  if Region.wanted o (yielded ops a.tmps) = true then (∃ y, Rr g C w y ∧ SPM_r g C P M w o a v y) ∧ T = SPM_r g C P M w o a v else v = undef ∧ T = fun _ => True
def mStep_r (g : Nat) (C : Obj) (P : Program) (ops : Array Oper) (M : FuncId → Array Value → Value → World → Prop) (w : World) (o : Oper) (K : Act → (World → Prop) → Prop) (a : Act) (S : World → Prop) : Prop :=
  mGood_r g C P ops M w o a ∧ ∀ v T, mRes_r g C P ops M w o a v T → K (a.put o.dst v) (fun y => S y ∧ T y)
def mOp_r (g : Nat) (C : Obj) (P : Program) (ops : Array Oper) (M : FuncId → Array Value → Value → World → Prop) (w : World) (i : Nat) (K : Act → (World → Prop) → Prop) (a : Act) (S : World → Prop) : Prop :=
  match ops[i]? with
  | none => K a S
  | some o => mStep_r g C P ops M w o K a S
/-- The walk in the text's order. -/
def wpMk_r (g : Nat) (C : Obj) (P : Program) (ops : Array Oper) (M : FuncId → Array Value → Value → World → Prop) (w : World) (L : Act → (World → Prop) → Prop) : List Oper → Act → (World → Prop) → Prop
  | [], a, S => L a S
  | o :: rest, a, S => mStep_r g C P ops M w o (wpMk_r g C P ops M w L rest) a S

def KeptS_r (g : Nat) (C : Obj) (S : World → Prop) : Prop := ∀ x y, S x → Rr g C x y → S y
theorem SPM_r.kept {o : Oper} {a : Act} {v : Value} : KeptS_r g C (SPM_r g C P M w o a v) := fun _ _ ⟨x, x', h1, h2, h3⟩ hu => ⟨x, x', h1, h2, h3.trans hu⟩
theorem mRes_r.kept {o : Oper} {a : Act} {v : Value} {T : World → Prop} (h : mRes_r g C P ops M w o a v T) : KeptS_r g C T := by
  unfold mRes_r at h
  split at h
  · rw [h.2]; exact SPM_r.kept
  · rw [h.2]; exact fun _ _ _ _ => trivial
theorem mStep_mono_r {o : Oper} {K K' : Act → (World → Prop) → Prop} {a : Act} {S : World → Prop} (h : ∀ a S, K a S → K' a S) (hh : mStep_r g C P ops M w o K a S) : mStep_r g C P ops M w o K' a S :=
  ⟨hh.1, fun v T hr => h _ _ (hh.2 v T hr)⟩
theorem mOp_mono_r {i : Nat} {K K' : Act → (World → Prop) → Prop} {a : Act} {S : World → Prop} (h : ∀ a S, K a S → K' a S) (hh : mOp_r g C P ops M w i K a S) : mOp_r g C P ops M w i K' a S := by
  unfold mOp_r at *
  split
  · rename_i ho; simp only [ho] at hh; exact h _ _ hh
  · rename_i o ho; simp only [ho] at hh; exact mStep_mono_r h hh
theorem GoodM_r.some {o : Oper} {a : Act} (h : GoodM_r g C P M w o a) : ∃ v y, Rr g C w y ∧ SPM_r g C P M w o a v y := by
  have h0 := h w (Rr.refl w)
  have key : ∀ r : Result Next, GoodR_r g C P M w r → ∃ v x', Rr g C w x' ∧ OutR_r g C M v x' r := fun r hr => by
    cases r with
    | ok n x1 =>
      cases n with
      | value u => exact ⟨u, x1, hr, rfl, rfl⟩
      | skip => exact ⟨undef, x1, hr, rfl, rfl⟩
      | enter f args =>
        obtain ⟨hu, hc⟩ := hr
        obtain ⟨e, w', fr, ⟨v, _, h2, h3⟩, _⟩ := hc []
        exact ⟨v, w', hu.trans h2, h2, h3⟩
      | _ => exact absurd hr (by simp [GoodR_r])
    | halt _ _ => exact absurd hr (by simp [GoodR_r])
  obtain ⟨v, x', h1, h2⟩ := key _ h0
  exact ⟨v, x', h1, w, x', Rr.refl w, h2, Rr.refl _⟩
theorem mGood_r.some {o : Oper} {a : Act} (h : mGood_r g C P ops M w o a) : ∃ v T, mRes_r g C P ops M w o a v T := by
  unfold mRes_r
  by_cases hw : Region.wanted o (yielded ops a.tmps) = true
  · obtain ⟨v, y, h1, h2⟩ := (h hw).some
    exact ⟨v, _, by rw [if_pos hw]; exact ⟨⟨y, h1, h2⟩, rfl⟩⟩
  · exact ⟨undef, _, by rw [if_neg hw]; exact ⟨rfl, rfl⟩⟩

theorem mGood_put_r {o : Oper} {a : Act} (hs : ∀ cs b, o.op ≠ .select cs b) (dst : Option Tmp) (u : Value) (h : ∀ d, dst = some d → d ∉ o.looksAt ops) : mGood_r g C P ops M w o (a.put dst u) ↔ mGood_r g C P ops M w o a := by
  unfold mGood_r GoodM_r
  rw [execOp_put o hs a dst u h, wanted_put o a dst u h]
theorem mRes_put_r {o : Oper} {a : Act} (hs : ∀ cs b, o.op ≠ .select cs b) (dst : Option Tmp) (u : Value) (h : ∀ d, dst = some d → d ∉ o.looksAt ops) (v : Value) (T : World → Prop) : mRes_r g C P ops M w o (a.put dst u) v T ↔ mRes_r g C P ops M w o a v T := by
  unfold mRes_r SPM_r
  rw [execOp_put o hs a dst u h, wanted_put o a dst u h]

theorem mOp_put_r {j : Nat} {oi oj : Oper} (hj : ops[j]? = some oj) (hap : oi.apart ops oj = true)
    (hsi : ∀ cs b, oi.op ≠ .select cs b) (hsj : ∀ cs b, oj.op ≠ .select cs b) {K : Act → (World → Prop) → Prop} {a : Act} {S : World → Prop}
    (hy : mGood_r g C P ops M w oi a) (h : ∀ v T, mRes_r g C P ops M w oi a v T → mOp_r g C P ops M w j K (a.put oi.dst v) (fun y => S y ∧ T y)) :
    mOp_r g C P ops M w j (fun a' S' => mGood_r g C P ops M w oi a' ∧ ∀ v T, mRes_r g C P ops M w oi a' v T → K (a'.put oi.dst v) (fun y => S' y ∧ T y)) a S := by
  obtain ⟨h1, h2, h3⟩ := Oper.apart_spec hap
  unfold mOp_r at *
  simp only [hj] at *
  obtain ⟨v0, T0, hr0⟩ := hy.some
  refine ⟨(mGood_put_r hsj oi.dst v0 h1).1 (h v0 T0 hr0).1, fun u U hu => ⟨(mGood_put_r hsi oj.dst u h3).2 hy, fun v T hv => ?_⟩⟩
  have hv' := (mRes_put_r hsi oj.dst u h3 v T).1 hv
  have := (h v T hv').2 u U ((mRes_put_r hsj oi.dst v h1 u U).2 hu)
  rw [Act.put_comm a v u h2] at this
  have e : (fun y => (S y ∧ T y) ∧ U y) = (fun y => (S y ∧ U y) ∧ T y) := funext fun y => propext ⟨fun ⟨⟨a, b⟩, c⟩ => ⟨⟨a, c⟩, b⟩, fun ⟨⟨a, b⟩, c⟩ => ⟨⟨a, c⟩, b⟩⟩
  rw [e] at this
  exact this

def wpAnyM_r (g : Nat) (C : Obj) (P : Program) (md : Region.Mode) (ops : Array Oper) (M : FuncId → Array Value → Value → World → Prop) (w : World) (n : Nat) (L : Array Bool → Act → (World → Prop) → Prop) : Nat → Array Bool → Act → (World → Prop) → Prop
  | 0, listed, a, S => L listed a S
  | f + 1, listed, a, S =>
    Region.ready md ops listed ≠ [] ∧ ∀ i ∈ Region.ready md ops listed, i < n ∧ mOp_r g C P ops M w i (wpAnyM_r g C P md ops M w n L f (listed.setIfInBounds i true)) a S

theorem wpOp_of_mOp_r {i : Nat} {a : Act} {S : World → Prop} {K : Act → (World → Prop) → Prop} {K' : Act → World → Prop} {Q' : Exit → Act → World → Prop} {x : World} (hx : Rr g C w x) (hS : S x) (hk : KeptS_r g C S)
    (h : ∀ a S x', Rr g C w x' → S x' → KeptS_r g C S → K a S → K' a x') (hh : mOp_r g C P ops M w i K a S) : wpOp P ops Q' i K' a x := by
  unfold mOp_r at hh
  unfold wpOp
  split
  · rename_i ho; simp only [ho] at hh; exact h _ _ _ hx hS hk hh
  · rename_i o ho
    simp only [ho] at hh
    obtain ⟨hg, hn⟩ := hh
    split
    · rename_i hw
      refine .inl ?_
      have hgx := hg hw x hx
      have hn' : ∀ v x', Rr g C x x' → OutR_r g C M v x' ((execOp a.eval o).run P x) → K' (a.put o.dst v) x' := fun v x' hu ho => by
        have hsp : SPM_r g C P M w o a v x' := ⟨x, x', hx, ho, Rr.refl _⟩
        have hr : mRes_r g C P ops M w o a v (SPM_r g C P M w o a v) := by
          unfold mRes_r; rw [if_pos hw]; exact ⟨⟨x', hx.trans hu, hsp⟩, rfl⟩
        exact h _ _ _ (hx.trans hu) ⟨hk _ _ hS hu, hsp⟩ (fun y z hy hz => ⟨hk _ _ hy.1 hz, SPM_r.kept _ _ hy.2 hz⟩) (hn v _ hr)
      unfold Oper.wp
      generalize (execOp a.eval o).run P x = r at *
      cases r with
      | ok n x1 =>
        cases n with
        | value u => exact hn' u x1 hgx ⟨rfl, rfl⟩
        | skip => exact hn' undef x1 hgx ⟨rfl, rfl⟩
        | enter f args =>
          obtain ⟨hu, hc⟩ := hgx
          rw [Oper.upon_enter]
          refine hc.mono fun e x' ⟨v, he, h2, h3⟩ => ?_
          subst he
          exact hn' v x' (hu.trans h2) ⟨h2, h3⟩
        | _ => exact absurd hgx (by simp [GoodR_r])
      | halt _ _ => exact absurd hgx (by simp [GoodR_r])
    · rename_i hw
      have hr : mRes_r g C P ops M w o a undef (fun _ => True) := by unfold mRes_r; rw [if_neg hw]; exact ⟨rfl, rfl⟩
      exact h _ _ _ hx ⟨hS, trivial⟩ (fun y z hy hz => ⟨hk _ _ hy.1 hz, trivial⟩) (hn _ _ hr)

theorem wpAny_of_headM_r {n gg : Nat} {L : Array Bool → Act → (World → Prop) → Prop} {Q' : Exit → Act → World → Prop} (hL : ∀ listed a S x, Rr g C w x → S x → KeptS_r g C S → L listed a S → wpAny P md ops Q' gg listed a x) :
    ∀ (f : Nat) (listed : Array Bool) (a : Act) (S : World → Prop) (x : World), Rr g C w x → S x → KeptS_r g C S → wpAnyM_r g C P md ops M w n L f listed a S → wpAny P md ops Q' (f + gg) listed a x
  | 0, listed, a, S, x, hx, hS, hk, h => by rw [Nat.zero_add]; exact hL _ _ _ _ hx hS hk h
  | f + 1, listed, a, S, x, hx, hS, hk, h => by
    rw [show f + 1 + gg = (f + gg) + 1 by omega]
    exact ⟨fun h0 => absurd h0 h.1, fun i hi => wpOp_of_mOp_r hx hS hk (fun a' S' x' h1 h2 h3 h' => wpAny_of_headM_r hL f _ a' S' x' h1 h2 h3 h') (h.2 i hi).2⟩

theorem wpAnyM_first_r {n i : Nat} {oi : Oper} {L : Array Bool → Act → (World → Prop) → Prop} (hi : ops[i]? = some oi) (hsel : ∀ (j : Nat) (o : Oper) cs b, ops[j]? = some o → o.op ≠ .select cs b)
    (hlt : ∀ listed, HeadInv md ops n listed → i ∈ Region.ready md ops listed → ∀ j ∈ Region.ready md ops listed, j < n)
    (hdone : ∀ listed a S, L listed a S → ∀ j ∈ Region.ready md ops listed, n ≤ j) :
    ∀ (f : Nat) (listed : Array Bool) (a : Act) (S : World → Prop), HeadInv md ops n listed →
      (∀ j oj, ops[j]? = some oj → j ≠ i → listed.getD j true = false → (∀ e ∈ oj.after, Region.binds md e = true → e.on ≠ i) → oi.apart ops oj = true) →
      i ∈ Region.ready md ops listed → mGood_r g C P ops M w oi a →
      (∀ v T, mRes_r g C P ops M w oi a v T → wpAnyM_r g C P md ops M w n L f (listed.setIfInBounds i true) (a.put oi.dst v) (fun y => S y ∧ T y)) → wpAnyM_r g C P md ops M w n L (f + 1) listed a S := by
  intro f
  induction f with
  | zero =>
    intro listed a S inv _ hr hy H
    have hun := (mem_ready.1 hr).1
    refine ⟨fun h => (by rw [h] at hr; cases hr), fun j hj => ?_⟩
    have hjn : j < n := hlt listed inv hr j hj
    refine ⟨hjn, ?_⟩
    by_cases hji : j = i
    · subst hji; unfold mOp_r; simp only [hi]; exact ⟨hy, H⟩
    · obtain ⟨v0, T0, hr0⟩ := hy.some
      have := hdone _ _ _ (H v0 T0 hr0) j (ready_mono hj hji)
      omega
  | succ f ih =>
    intro listed a S inv hfree hr hy H
    have hun := (mem_ready.1 hr).1
    refine ⟨fun h => (by rw [h] at hr; cases hr), fun j hj => ?_⟩
    have hjn : j < n := hlt listed inv hr j hj
    refine ⟨hjn, ?_⟩
    by_cases hji : j = i
    · subst hji; unfold mOp_r; simp only [hi]; exact ⟨hy, H⟩
    · obtain ⟨hjun, oj, hoj, hall⟩ := mem_ready.1 hj
      have hnot : ∀ e ∈ oj.after, Region.binds md e = true → e.on ≠ i := fun e he hb heq => by
        have h1 := hall e he hb
        rw [heq, getD_both hun] at h1
        cases h1
      have h2 := mOp_put_r (K := wpAnyM_r g C P md ops M w n L f ((listed.setIfInBounds i true).setIfInBounds j true)) hoj (hfree j oj hoj hji hjun hnot) (fun cs b => hsel i oi cs b hi) (fun cs b => hsel j oj cs b hoj) hy
        (fun v T hv => ((H v T hv).2 j (ready_mono hj hji)).2)
      have hfree' : ∀ k ok, ops[k]? = some ok → k ≠ i → (listed.setIfInBounds j true).getD k true = false →
          (∀ e ∈ ok.after, Region.binds md e = true → e.on ≠ i) → oi.apart ops ok = true := fun k ok hk hki hun hno => by
        refine hfree k ok hk hki ?_ hno
        by_cases hjk : j = k
        · subst hjk; exact hjun
        · rw [getD_set_ne true hjk] at hun; exact hun
      refine mOp_mono_r (fun a' S' h3 => ih (listed.setIfInBounds j true) a' S' (inv.set hj hjn) hfree' (ready_mono hr (Ne.symm hji)) h3.1 ?_) h2
      rw [Array.setIfInBounds_comm _ _ hji]
      exact h3.2

theorem wpAnyM_lex_r {n : Nat} {Lq : Act → (World → Prop) → Prop} {B : Array Bool → Prop} {lex : Nat → Nat → Array Bool → Bool}
    (h0B : ∀ k listed, lex 0 k listed = true → k = n → B listed) (h1B : ∀ f k listed, lex (f + 1) k listed = true → (Region.ready md ops listed).contains k = true ∧ Region.free md ops listed k = true ∧ lex f (k + 1) (listed.setIfInBounds k true) = true)
    (hsel : Region.noSelect ops = true) (hlt : ∀ i, i < n → ∀ listed, HeadInv md ops n listed → i ∈ Region.ready md ops listed → ∀ j ∈ Region.ready md ops listed, j < n)
    (hdone : ∀ listed, B listed → ∀ j ∈ Region.ready md ops listed, n ≤ j) :
    ∀ (l : List Oper) (k : Nat) (listed : Array Bool) (a : Act) (S : World → Prop), (∀ j, j < l.length → l[j]? = ops[k + j]?) → k + l.length = n → HeadInv md ops n listed →
    lex l.length k listed = true → wpMk_r g C P ops M w Lq l a S →
    wpAnyM_r g C P md ops M w n (fun listed' a' S' => B listed' ∧ Lq a' S') l.length listed a S
  | [], k, listed, a, S, _, hk, _, hB, h => by
    have : k = n := by simpa using hk
    exact ⟨h0B k listed (by simpa using hB) this, h⟩
  | o :: l, k, listed, a, S, hl, hk, inv, hB, h => by
    have h0 : ops[k]? = some o := by simpa using (hl 0 (by simp)).symm
    obtain ⟨hr, hf, hB'⟩ := h1B _ _ _ hB
    have hkn : k < n := by simp only [List.length_cons] at hk; omega
    have hr' : k ∈ Region.ready md ops listed := by simpa using hr
    exact wpAnyM_first_r h0 (Region.noSelect_spec hsel) (hlt k hkn) (fun listed' a' S' hL => hdone _ hL.1) l.length listed a S inv (Region.free_spec h0 hf) hr' h.1
      (fun v T hv => wpAnyM_lex_r h0B h1B hsel hlt hdone l (k + 1) _ _ _ (fun j hj => by have := hl (j + 1) (by simp; omega); simpa [Nat.add_assoc, Nat.add_comm 1 j] using this) (by simp only [List.length_cons] at hk; omega) (inv.set hr' hkn) hB' (h.2 v T hv))

/-- The head once, in the text's order; then the tail as it stands. -/
theorem wp_region_mk_r {id : Nat} {Q : Exit → Act → World → Prop} {a : Act} {l : List Oper} (n : Nat) (M : FuncId → Array Value → Value → World → Prop) (hm : P.follows .mixedOrders = true) (hB : Region.lexTailB .any l.toArray n = true)
    (h : wpMk_r g C P l.toArray M w (fun a' S => ∀ x, Rr g C w x → S x → wpList P l.toArray Q (l.drop n) a' x) (l.take n) a (fun _ => True)) : (Code.region id l.toArray true).wp P Q a w := by
  simp only [Region.lexTailB, Bool.and_eq_true, decide_eq_true_eq] at hB
  obtain ⟨⟨⟨⟨hsel, hn⟩, hs⟩, hc⟩, hlex⟩ := hB
  have hn' : n < l.length := by simpa using hn
  have htl : (l.take n).length = n := by simp; omega
  have hdl : (l.drop n).length = l.toArray.size - n := by simp
  have inv0 : HeadInv .any l.toArray n (Array.replicate l.toArray.size false) :=
    ⟨by simp, fun j oj _ hl => (by rw [getD_replicate_false] at hl; cases hl), fun t _ ht => getD_in (by simpa using ht) (getD_replicate_false _ _)⟩
  have H := wpAnyM_lex_r (md := .any) (n := n) (B := fun listed => Region.seqB .any l.toArray (l.toArray.size - n) n listed = true) (lex := Region.lexHead .any l.toArray (l.toArray.size - n))
    (fun k listed h1 h2 => by subst h2; simpa [Region.lexHead] using h1) (fun f k listed h1 => by
      simp only [Region.lexHead, Bool.and_eq_true] at h1; exact ⟨h1.1.1, h1.1.2, h1.2⟩) hsel
    (fun i hin listed inv hr j hj => by
      rcases Nat.lt_or_ge j n with h | h
      · exact h
      · exact absurd hj (tail_waits hs hc hn inv _ i rfl hin (mem_ready.1 hr).1 j h))
    (fun listed h1 => seqB_ready h1) (l.take n) 0 _ a _ (fun j hj => by
    have hj' : j < n := by rw [htl] at hj; exact hj
    simp [hj']) (by simpa using htl) inv0 (by rw [htl]; exact hlex) h
  refine wp_region_any hm ?_
  have := wpAny_of_headM_r (Q' := Q) (gg := l.toArray.size - n) (fun listed a' S x hx hS _ hL => by
    have := wpAny_of_seq (md := .any) (Q' := Q) (l.drop n) n listed a' x (fun j => by simp [List.getElem?_drop]) (by rw [hdl]; exact hL.1) (hL.2 x hx hS)
    rwa [hdl] at this) _ _ _ _ { w with drawn := w.drawn + 1 } (Rr.refl w).drew trivial (fun _ _ _ _ => trivial) H
  rw [htl, show n + (l.toArray.size - n) = l.toArray.size by omega] at this
  exact this

/-- The whole region. -/
theorem wp_region_mk_all_r {id : Nat} {Q : Exit → Act → World → Prop} {a : Act} {l : List Oper} (M : FuncId → Array Value → Value → World → Prop) (hm : P.follows .mixedOrders = true) (hB : Region.lexB .any l.toArray = true)
    (h : wpMk_r g C P l.toArray M w (fun a' S => ∀ x, Rr g C w x → S x → Q .normal a' x) l a (fun _ => True)) : (Code.region id l.toArray true).wp P Q a w := by
  simp only [Region.lexB, Bool.and_eq_true] at hB
  obtain ⟨hsel, hlex⟩ := hB
  have hsz : l.length = l.toArray.size := by simp
  have inv0 : HeadInv .any l.toArray l.length (Array.replicate l.toArray.size false) :=
    ⟨by simp, fun j oj _ hl => (by rw [getD_replicate_false] at hl; cases hl), fun t h1 ht => (by simp at ht; omega)⟩
  have H := wpAnyM_lex_r (md := .any) (n := l.length) (B := fun listed => Region.ready .any l.toArray listed = []) (lex := Region.lexFrom .any l.toArray)
    (fun k listed h1 h2 => by simpa [Region.lexFrom] using h1) (fun f k listed h1 => by
      simp only [Region.lexFrom, Bool.and_eq_true] at h1; exact ⟨h1.1.1, h1.1.2, h1.2⟩) hsel
    (fun i hin listed inv hr j hj => by
      obtain ⟨_, oj, hoj, _⟩ := mem_ready.1 hj
      have := (Array.getElem?_eq_some_iff.1 hoj).1
      simpa using this)
    (fun listed h1 j hj => by rw [h1] at hj; cases hj) l 0 _ a _ (fun j hj => by simp) (by simp) inv0 (by rw [hsz]; simpa using hlex) h
  refine wp_region_any hm ?_
  have := wpAny_of_headM_r (Q' := Q) (gg := 0) (fun listed a' S x hx hS _ hL => ⟨hL.1, hL.2 x hx hS⟩) _ _ _ _ { w with drawn := w.drawn + 1 } (Rr.refl w).drew trivial (fun _ _ _ _ => trivial) H
  rw [hsz, Nat.add_zero] at this
  exact this

/-! ### One operation at a time -/

/-- A continuation that asks less of the facts. -/
def AntiS_r (g : Nat) (C : Obj) {w : World} (L : Act → (World → Prop) → Prop) : Prop := ∀ a S T, (∀ x, Rr g C w x → T x → S x) → L a S → L a T
theorem wpMk_anti_r {L : Act → (World → Prop) → Prop} (hL : AntiS_r g C (w := w) L) : ∀ (l : List Oper) (a : Act) (S T : World → Prop), (∀ x, Rr g C w x → T x → S x) → wpMk_r g C P ops M w L l a S → wpMk_r g C P ops M w L l a T
  | [], a, S, T, h, hh => hL a S T h hh
  | o :: l, a, S, T, h, hh => ⟨hh.1, fun v U hv => wpMk_anti_r hL l _ _ _ (fun x hx ⟨h1, h2⟩ => ⟨h x hx h1, h2⟩) (hh.2 v U hv)⟩
theorem anti_post_r {F : Act → World → Prop} : AntiS_r g C (w := w) (fun a' S => ∀ x, Rr g C w x → S x → F a' x) := fun a S T h hh x hx hT => hh x hx (h x hx hT)

theorem wpMk_nil_r {L : Act → (World → Prop) → Prop} {a : Act} {S : World → Prop} (h : L a S) : wpMk_r g C P ops M w L [] a S := h

/-- Any operation that yields a value of which R is known. -/
theorem wpMk_any_r {L : Act → (World → Prop) → Prop} (hL : AntiS_r g C (w := w) L) {o : Oper} {rest : List Oper} {a : Act} {S : World → Prop} (R : Value → World → Prop) (hR : ∀ v x y, R v x → Rr g C x y → R v y)
    (hw : Region.wanted o (yielded ops a.tmps) = true) (hrun : ∀ x, Rr g C w x → ∃ v x', (execOp a.eval o).run P x = .ok (.value v) x' ∧ Rr g C x x' ∧ R v x')
    (h : ∀ v, (∃ y, Rr g C w y ∧ R v y) → wpMk_r g C P ops M w L rest (a.put o.dst v) (fun y => S y ∧ R v y)) : wpMk_r g C P ops M w L (o :: rest) a S := by
  have key : ∀ v y, SPM_r g C P M w o a v y → R v y := fun v y ⟨x, x', h1, h2, h3⟩ => by
    obtain ⟨v', x1, hr, hu, hv⟩ := hrun x h1
    rw [hr] at h2
    obtain ⟨rfl, rfl⟩ := h2
    exact hR _ _ _ hv h3
  refine ⟨fun _ x hx => ?_, fun v T hv => ?_⟩
  · obtain ⟨v', x1, hr, hu, _⟩ := hrun x hx
    rw [hr]; exact hu
  · unfold mRes_r at hv
    rw [if_pos hw] at hv
    obtain ⟨⟨y, hy, hs⟩, rfl⟩ := hv
    exact wpMk_anti_r hL _ _ _ _ (fun x _ ⟨h1, h2⟩ => ⟨h1, key _ _ h2⟩) (h v ⟨y, hy, key _ _ hs⟩)

/-- A call. -/
theorem wpMk_enter_r {L : Act → (World → Prop) → Prop} (hL : AntiS_r g C (w := w) L) {o : Oper} {rest : List Oper} {a : Act} {S : World → Prop} (f : FuncId) (args : Array Value) (hK : ∀ v x y, M f args v x → Rr g C x y → M f args v y)
    (hw : Region.wanted o (yielded ops a.tmps) = true) (hrun : ∀ x, (execOp a.eval o).run P x = .ok (.enter f args) x)
    (hc : ∀ x, Rr g C w x → Calls P f args x fun e x' => ∃ v, e = .returned v ∧ Rr g C x x' ∧ M f args v x')
    (h : ∀ v, (∃ y, Rr g C w y ∧ M f args v y) → wpMk_r g C P ops M w L rest (a.put o.dst v) (fun y => S y ∧ M f args v y)) : wpMk_r g C P ops M w L (o :: rest) a S := by
  have key : ∀ v y, SPM_r g C P M w o a v y → M f args v y := fun v y ⟨x, x', h1, h2, h3⟩ => by
    rw [hrun x] at h2
    exact hK _ _ _ h2.2 h3
  refine ⟨fun _ x hx => ?_, fun v T hv => ?_⟩
  · rw [hrun x]; exact ⟨Rr.refl x, hc x hx⟩
  · unfold mRes_r at hv
    rw [if_pos hw] at hv
    obtain ⟨⟨y, hy, hs⟩, rfl⟩ := hv
    exact wpMk_anti_r hL _ _ _ _ (fun x _ ⟨h1, h2⟩ => ⟨h1, key _ _ h2⟩) (h v ⟨y, hy, key _ _ hs⟩)

theorem wpMk_quiet_r {L : Act → (World → Prop) → Prop} (hL : AntiS_r g C (w := w) L) {o : Oper} {rest : List Oper} {a : Act} {S : World → Prop} (hn : noEnter o = true)
    (h : wpQuiet P ops (fun x => ∃ i : ExtR g C w, x = i.w) (fun a' => wpMk_r g C P ops M w L rest a' S) [o] a) : wpMk_r g C P ops M w L (o :: rest) a S := by
  unfold wpQuiet at h
  by_cases hw : Region.wanted o (yielded ops a.tmps) = true
  · rw [if_pos hw] at h
    obtain ⟨u, h1, h2⟩ := h
    have hrun : ∀ x, Rr g C w x → (execOp a.eval o).run P x = .ok (.value u) x ∨ ((execOp a.eval o).run P x = .ok .skip x ∧ u = undef) := fun x hx => by
      have h3 := h1 x ⟨⟨x, hx⟩, rfl⟩
      unfold Oper.quietAt at h3
      have h4 := noEnter_spec (P := P) hn a.eval x
      generalize (execOp a.eval o).run P x = r at *
      cases r with
      | ok n x1 =>
        cases n with
        | value v => obtain ⟨rfl, rfl⟩ := h3; exact .inl rfl
        | skip => obtain ⟨rfl, rfl⟩ := h3; exact .inr ⟨rfl, rfl⟩
        | enter f args => exact absurd rfl (h4 f args x1)
        | _ => exact absurd h3 (by simp [Oper.quietUpon])
      | halt _ _ => exact absurd h3 (by simp [Oper.quietUpon])
    have key : ∀ v y, SPM_r g C P M w o a v y → v = u := fun v y ⟨x, x', g1, g2, g3⟩ => by
      rcases hrun x g1 with hr | ⟨hr, rfl⟩ <;> rw [hr] at g2
      · exact g2.1.symm
      · exact g2.1
    refine ⟨fun _ x hx => ?_, fun v T hv => ?_⟩
    · rcases hrun x hx with hr | ⟨hr, rfl⟩ <;> rw [hr] <;> exact Rr.refl x
    · unfold mRes_r at hv
      rw [if_pos hw] at hv
      obtain ⟨⟨y, hy, hs⟩, rfl⟩ := hv
      obtain rfl := key _ _ hs
      exact wpMk_anti_r hL _ _ _ _ (fun x _ h3 => h3.1) h2
  · rw [if_neg hw] at h
    refine ⟨fun hw' => absurd hw' hw, fun v T hv => ?_⟩
    unfold mRes_r at hv
    rw [if_neg hw] at hv
    obtain ⟨rfl, rfl⟩ := hv
    exact wpMk_anti_r hL _ _ _ _ (fun x _ h3 => h3.1) h

/-- The store that floats: it lays C in block g. -/
theorem wpMk_store_r {L : Act → (World → Prop) → Prop} (hL : AntiS_r g C (w := w) L) {o : Oper} {rest : List Oper} {a : Act} {S : World → Prop}
    (hw : Region.wanted o (yielded ops a.tmps) = true) (hrun : ∀ x, Rr g C w x → ∃ x', (execOp a.eval o).run P x = .ok .skip x' ∧ UpBut g x x' ∧ x'.heap[g]? = some C)
    (h : wpMk_r g C P ops M w L rest (a.put o.dst undef) (fun y => S y ∧ y.heap[g]? = some C)) : wpMk_r g C P ops M w L (o :: rest) a S := by
  have key : ∀ v y, SPM_r g C P M w o a v y → v = undef ∧ y.heap[g]? = some C := fun v y ⟨x, x', h1, h2, h3⟩ => by
    obtain ⟨x1, hr, hu, hc⟩ := hrun x h1
    rw [hr] at h2
    obtain ⟨rfl, rfl⟩ := h2
    refine ⟨rfl, ?_⟩
    rcases h3.2 with e | e
    · rw [e, hc]
    · exact e
  refine ⟨fun _ x hx => ?_, fun v T hv => ?_⟩
  · obtain ⟨x1, hr, hu, hc⟩ := hrun x hx
    rw [hr]; exact ⟨hu, .inr hc⟩
  · unfold mRes_r at hv
    rw [if_pos hw] at hv
    obtain ⟨⟨y, hy, hs⟩, rfl⟩ := hv
    obtain ⟨rfl, -⟩ := key _ _ hs
    exact wpMk_anti_r hL _ _ _ _ (fun x _ ⟨h1, h2⟩ => ⟨h1, (key _ _ h2).2⟩) h

/-- An operation whose guard says no. -/
theorem wpMk_unwanted_r {L : Act → (World → Prop) → Prop} (hL : AntiS_r g C (w := w) L) {o : Oper} {rest : List Oper} {a : Act} {S : World → Prop}
    (hw : Region.wanted o (yielded ops a.tmps) = false) (h : wpMk_r g C P ops M w L rest (a.put o.dst undef) S) : wpMk_r g C P ops M w L (o :: rest) a S := by
  refine ⟨fun hw' => absurd hw' (by rw [hw]; simp), fun v T hv => ?_⟩
  unfold mRes_r at hv
  rw [if_neg (by rw [hw]; simp)] at hv
  obtain ⟨rfl, rfl⟩ := hv
  exact wpMk_anti_r hL _ _ _ _ (fun x _ h3 => h3.1) h
end
end Go.Proofs.YtlglfdhiopnglaaGreatDoor
end

section
namespace Go.Proofs.YtlglfdhiopnglaaGreatDoor
open Go.ChangeShapes Go.WideShapes Go.ChangeAt Go.RowKit
set_option linter.unusedVariables false
set_option linter.unusedSimpArgs false
set_option maxRecDepth 100000

/-- The block that a slice lies in. -/
def blk : Value → Option Nat
  | .slice (some a) _ _ => some a.block
  | _ => none
def Fresh (B : Nat) (v : Value) : Prop := ∀ g, blk v = some g → B ≤ g
theorem Fresh.own {w : World} {base n k : Nat} {e : TypeId} {v : Value} {xs : List Value} (h : w.ownsRow base e k v n xs) : Fresh base v := fun g hg => by
  rcases h.2 with ⟨rfl, _⟩ | ⟨g', cap, cur, rfl, hb, _⟩
  · cases hg
  · cases hg; exact hb
theorem Fresh.le {B C : Nat} {v : Value} (h : Fresh B v) (hc : C ≤ B) : Fresh C v := fun g hg => Nat.le_trans hc (h g hg)
theorem SlAt.set {w : World} {v : Value} {len k : Nat} {f : Nat → Nat → Value} (h : SlAt w v len k f) {b : Nat} (hb : ∀ g, blk v = some g → g ≠ b) (o : Nat) (u : Value) : SlAt (w.setCell ⟨b, o, none⟩ u) v len k f := by
  obtain ⟨⟨a, cap, hv, h0, h1⟩, h2⟩ := h
  refine ⟨⟨a, cap, hv, h0, fun x hx hl => ?_⟩, h2⟩
  obtain ⟨g1, g2, g3⟩ := h1 x hx hl
  have hne : x.block ≠ b := hb _ (by rw [hv, hx]; rfl)
  refine ⟨g1, by simpa [World.setCell] using g2, fun i j hi hj => ?_⟩
  rw [World.cell?_setCell_other _ _ _ _ (fun e => hne (congrArg Addr.block e).symm)]
  exact g3 i j hi hj
theorem Fresh.ne {B b : Nat} {v : Value} (h : Fresh B v) (hb : b < B) : ∀ g, blk v = some g → g ≠ b := fun g hg e => by
  have := h g hg
  omega
theorem InsAt.set {w : World} {v : Value} {l : List Ins} (h : InsAt w v l) {b : Nat} (hb : ∀ g, blk v = some g → g ≠ b) (o : Nat) (u : Value) : InsAt (w.setCell ⟨b, o, none⟩ u) v l := ⟨h.1.set hb o u, h.2⟩
theorem TypAt.set {w : World} {v : Value} {l : List Typ} (h : TypAt w v l) {b : Nat} (hb : ∀ g, blk v = some g → g ≠ b) (o : Nat) (u : Value) : TypAt (w.setCell ⟨b, o, none⟩ u) v l := ⟨h.1.set hb o u, h.2⟩


end Go.Proofs.YtlglfdhiopnglaaGreatDoor
end

section
namespace Go.Proofs.YtlglfdhiopnglaaGreatDoor
open Go.ChangeShapes Go.WideShapes Go.ChangeAt Go.RowKit
set_option linter.unusedVariables false
set_option linter.unusedSimpArgs false
set_option maxRecDepth 100000

/-- Name, At, Len -/
abbrev Slt := ByteArray × Int × Int
abbrev s0 : Slt := (⟨#[]⟩, 0, 0)
def sltF (l : List Slt) (i j : Nat) : Value :=
  match j with
  | 0 => .string (l.getD i s0).1
  | 1 => .int .i64 (l.getD i s0).2.1
  | _ => .int .i64 (l.getD i s0).2.2
theorem size_al (w : World) (o : Obj) : (w.alloc o).heap.size = w.heap.size + 1 := by simp
def SltAt (w : World) (v : Value) (l : List Slt) : Prop := SlAt w v l.length 3 (sltF l)
theorem SltAt.up {w w' : World} {v : Value} {l : List Slt} (h : SltAt w v l) (u : Up w w') : SltAt w' v l := SlAt.up h u
theorem SltAt.slice {w : World} {v : Value} {l : List Slt} (h : SltAt w v l) : (∃ a cap, v = .slice a l.length cap) ∧ l.length ≤ 9223372036854775807 := by
  obtain ⟨⟨a, cap, hv, _, _⟩, hm⟩ := h
  exact ⟨⟨a, cap, hv⟩, hm⟩
theorem SltAt.set {w : World} {v : Value} {l : List Slt} (h : SltAt w v l) {b : Nat} (hb : ∀ g, blk v = some g → g ≠ b) (o : Nat) (u : Value) : SltAt (w.setCell ⟨b, o, none⟩ u) v l := SlAt.set h hb o u
theorem sltF_one (l : List Slt) (i j : Nat) : (sltF l i j).oneCell' = true := by
  unfold sltF
  split <;> rfl
theorem typF_one (l : List Typ) (i j : Nat) : (typF l i j).oneCell' = true := rfl
theorem SltAt.of_own {w : World} {base n : Nat} {e : TypeId} {v : Value} {l : List Slt} (h : w.ownsRow base e 3 v n (flat (sltF l) n 3)) (hn : l.length = n) (hl : n ≤ 9223372036854775807) : SltAt w v l := by
  subst hn
  exact SlAt.of_own h hl fun i j hi hj => flat_get _ _ _ _ _ hi hj
theorem TypAt.of_own {w : World} {base n : Nat} {e : TypeId} {v : Value} {l : List Typ} (h : w.ownsRow base e 5 v n (flat (typF l) n 5)) (hn : l.length = n) (hl : n ≤ 9223372036854775807) (hr : ∀ x ∈ l, TyR x) : TypAt w v l := by
  subst hn
  exact ⟨SlAt.of_own h hl fun i j hi hj => flat_get _ _ _ _ _ hi hj, hr⟩
theorem typ_info : (Tryz.prog.info? 40).map (fun i => (i.zero, i.size, i.bytes)) = some (some (.agg #[.int .i64 0, .int .i64 0, .int .i64 0, .int .i64 0, .int .i64 0]), 5, 40) := by kernel_rfl
end Go.Proofs.YtlglfdhiopnglaaGreatDoor
end
