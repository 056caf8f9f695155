/-
  Joined by a program: DgL, DgM, DgU.
-/
import Derived.Test.YtpccaifhcmcegaaGreatDg7
import Derived.Deep.MidRow
import Derived.Maps.OwnSet
import Derived.Maps.OwnOps
import Derived.Maps.Views

section
namespace Go.Proofs.YtpccaifhcmcegaaGreat
set_option linter.unusedSimpArgs false
open Go.ChangeShapes Go.WideShapes Go.ChangeAt Go.RowKit
set_option linter.unusedVariables false
set_option maxRecDepth 100000

/-- What the walks ask of a reading of k cells. -/
structure Rk {α : Type} (k : Nat) (R : Rel α) : Prop where
  up : UpR R
  congr : ∀ w f g x, R w f x → (∀ j, j < k → f j = g j) → R w g x
  one : ∀ w f x, R w f x → ∀ j, j < k → (f j).oneCell' = true
/-- The cells of an array read as a datum. -/
def CsAt {α : Type} (k : Nat) (R : Rel α) (w : World) (cs : Array Value) (x : α) : Prop := cs.size = k ∧ R w (fun j => cs.getD j undef) x
theorem CsAt.up {α : Type} {k : Nat} {R : Rel α} (hR : Rk k R) {w w' : World} {cs : Array Value} {x : α} (h : CsAt k R w cs x) (u : Up w w') : CsAt k R w' cs x := ⟨h.1, hR.up _ _ _ _ h.2 u⟩
theorem CsAt.one {α : Type} {k : Nat} {R : Rel α} (hR : Rk k R) {w : World} {cs : Array Value} {x : α} (h : CsAt k R w cs x) : cs.all (·.oneCell') = true := by
  rw [Array.all_eq_true]
  intro i hi
  have := hR.one _ _ _ h.2 i (by rw [← h.1]; exact hi)
  rw [Array.getD_eq_getD_getElem?, Array.getElem?_eq_getElem hi] at this
  exact this
/-- A row of cells: element i. -/
theorem LsAt.row {α : Type} {k B : Nat} {R : Rel α} (hR : Rk k R) {w : World} {a : Option Addr} {n c : Nat} {l : List α} (h : LsAt k B R w (.slice a n c) l) (i : Nat) (hi : i < l.length) :
    ∃ (g o : Nat) (cs : Array Value), a = some ⟨g, o, none⟩ ∧ g < w.heap.size ∧ CsAt k R w cs l[i] ∧ ∀ y, Up w y → y.rangeAt g (o + i * k) cs.toList := by
  obtain ⟨g, o, f, e, hg, hf, hx⟩ := h.elem i hi
  have hc : ∀ j, j < k → ((List.range k).map f).toArray[j]? = some (f j) := fun j hj => by simp [hj]
  refine ⟨g, o, ((List.range k).map f).toArray, e, hg, ⟨by simp, hR.congr _ _ _ _ hx fun j hj => ?_⟩, fun y hy j v hv => ?_⟩
  · rw [Array.getD_eq_getD_getElem?, hc j hj]; rfl
  · have hj : j < k := by
      have := (List.getElem?_eq_some_iff.1 hv).1
      simpa using this
    have e2 : v = f j := by
      have := hc j hj
      rw [← Array.getElem?_toList, hv] at this
      exact Option.some.inj this
    rw [e2]
    exact (hy.cell _ _ hg).trans (hf j hj)
/-- What a load of the whole answers. -/
theorem run_cs {P : Program} {T : TypeId} {k : Nat} {d : TypeDesc} (hu : P.underlying T = some d) (hd : d.isRow = true) (hi : (P.info? T).map (·.size) = some k) {w : World} {g o : Nat} {cs : Array Value} (hs : cs.size = k) (hr : w.rangeAt g o cs.toList) :
    (Instr.loadAt T (.pointer (some ⟨g, o, none⟩))).run P w = .ok (.agg cs) w := by
  have := run_loadAt_mid (P := P) w g o T cs.toList d hr hu hd (by rw [hi]; simp [hs])
  simpa using this
theorem BoxC.range {w : World} {g : Nat} {t : TypeId} {cs : Array Value} (h : BoxC w g t cs) : w.rangeAt g 0 cs.toList := by
  intro j v hv
  rw [Nat.zero_add, cell_of_row _ _ _ _ _ _ h, ← Array.getElem?_toList]; exact hv
theorem BoxC.sub {w : World} {g : Nat} {t : TypeId} {cs : Array Value} (h : BoxC w g t cs) (o n : Nat) : w.rangeAt g o (cs.extract o (o + n)).toList := World.rangeAt_of_block h o n
theorem BoxC.at {w : World} {g : Nat} {t : TypeId} {cs : Array Value} (h : BoxC w g t cs) {j : Nat} {v : Value} (hv : cs.getD j undef = v) (hj : j < cs.size) : w.cell? ⟨g, j, none⟩ = some v := by
  rw [cell_of_row _ _ _ _ _ _ h, ← hv, Array.getD_eq_getD_getElem?, Array.getElem?_eq_getElem hj]; rfl
theorem getD_extract {cs : Array Value} {o n j : Nat} (hs : o + n ≤ cs.size) (hj : j < n) : (cs.extract o (o + n)).getD j undef = cs.getD (o + j) undef := by
  rw [Array.getD_eq_getD_getElem?, Array.getD_eq_getD_getElem?, Array.getElem?_extract, if_pos (by omega)]
theorem setRow_new (w : World) {Z cs : Array Value} {T : TypeId} : (w.alloc (.cells Z T)).setRow w.heap.size cs = w.alloc (.cells cs T) := by
  have e : ((w.alloc (.cells Z T)).setRow w.heap.size cs).heap = (w.alloc (.cells cs T)).heap := by
    apply Array.ext_getElem?
    intro i
    by_cases h : i = w.heap.size
    · subst h
      rw [setRow_heap _ _ _ _ _ _ (heap_alloc_new w _)]
      exact (heap_alloc_new w _).symm
    · rw [setRow_other _ _ _ _ h]
      show (w.heap.push _)[i]? = (w.heap.push _)[i]?
      rw [Array.getElem?_push, Array.getElem?_push, if_neg h, if_neg h]
  show ({ (w.alloc (.cells Z T)) with heap := ((w.alloc (.cells Z T)).setRow w.heap.size cs).heap } : World) = _
  rw [e]; rfl
/-- The zero box of a struct, then its store. -/
theorem run_fill {P : Program} {T : TypeId} {k : Nat} (hi : (P.info? T).map (·.size) = some k) (w : World) {Z cs : Array Value} (hz : Z.size = k) (hs : cs.size = k) (h1 : cs.all (·.oneCell') = true) :
    (Instr.storeAt T (.pointer (some ⟨w.heap.size, 0, none⟩)) (.agg cs)).run P (w.alloc (.cells Z T)) = .ok () (w.alloc (.cells cs T)) := by
  have hb : BoxC (w.alloc (.cells Z T)) w.heap.size T Z := BoxC.new w T Z
  have := run_storeVar_row (P := P) (w.alloc (.cells Z T)) w.heap.size T T Z cs hb (by rw [hi, hs]) (by rw [hz, hs]) h1
  rw [setRow_new] at this
  simp only [Instr.storeAt, Instr.sureAddr, Sem.run_bind, Sem.run_pure, Result.andThen_ok, this]

/-! ### The operations, for the walk: arms -/
section
variable {P : Program} {ops : Array Oper} {rest : List Oper} {a : Act} {Q : Exit → Act → World → Prop} {w : World}
/-- A load, by what it answers. -/
theorem st_load {T : TypeId} {p V : Value} (hrun : (Instr.loadAt T p).run P w = .ok V w) {dst : Option Nat} {x : Operand} {ty : TypeId} {pos : String} {af : Array Edge} (hx : a.eval x = p)
    (h : wpList P ops Q rest (a.put dst V) w) : wpList P ops Q ({ dst := dst, op := .load T x, type := ty, pos := pos, after := af, guard := none } :: rest) a w :=
  wpList_plain rfl fun _ hK => by
    unfold Oper.wp execOp
    simp only [hx, hrun, Sem.run_bind, Sem.run_pure, Result.andThen_ok]
    exact hK _ _ h
/-- A guarded load, by what it answers. -/
theorem st_loadG {T : TypeId} {p V : Value} (hrun : (Instr.loadAt T p).run P w = .ok V w) {dst : Option Nat} {x : Operand} {ty : TypeId} {pos : String} {af : Array Edge} {gd : Option (Nat × Bool)} (hw : Region.wanted { dst := dst, op := .load T x, type := ty, pos := pos, after := af, guard := gd } (yielded ops a.tmps) = true) (hx : a.eval x = p)
    (h : wpList P ops Q rest (a.put dst V) w) : wpList P ops Q ({ dst := dst, op := .load T x, type := ty, pos := pos, after := af, guard := gd } :: rest) a w :=
  wpList_step fun K hK => by
    rw [if_pos hw]
    unfold Oper.wp execOp
    simp only [hx, hrun, Sem.run_bind, Sem.run_pure, Result.andThen_ok]
    exact hK _ _ h
/-- A store, by what it does. -/
theorem st_store {T : TypeId} {p V : Value} {w' : World} (hrun : (Instr.storeAt T p V).run P w = .ok () w') {dst : Option Nat} {x y : Operand} {ty : TypeId} {pos : String} {af : Array Edge} (hx : a.eval x = p) (hy : a.eval y = V)
    (h : wpList P ops Q rest (a.put dst undef) w') : wpList P ops Q ({ dst := dst, op := .store T x y, type := ty, pos := pos, after := af, guard := none } :: rest) a w :=
  wpList_plain rfl fun _ hK => by
    unfold Oper.wp execOp
    simp only [hx, hy, hrun, Sem.run_bind, Sem.run_pure, Result.andThen_ok]
    exact hK _ _ h
end
theorem arr13 {cs : Array Value} (h : cs.size = 13) : cs = #[cs.getD 0 undef, cs.getD 1 undef, cs.getD 2 undef, cs.getD 3 undef, cs.getD 4 undef, cs.getD 5 undef, cs.getD 6 undef, cs.getD 7 undef, cs.getD 8 undef, cs.getD 9 undef, cs.getD 10 undef, cs.getD 11 undef, cs.getD 12 undef] := by
  obtain ⟨l⟩ := cs
  match l, h with
  | [a0, a1, a2, a3, a4, a5, a6, a7, a8, a9, a10, a11, a12], _ => rfl
theorem CsAt.ex {n : Nat} {w : World} {cs : Array Value} {e : Ex} (h : CsAt 13 (exR n) w cs e) : ExAt n w (.agg cs) e := ⟨fun j => cs.getD j undef, by rw [← arr13 h.1], h.2⟩
theorem exR_k (n : Nat) : Rk 13 (exR n) := ⟨exR_up n, fun _ _ _ _ h e => exR_congr n h e, fun _ _ _ h => exR_one h⟩
theorem linR_congr {w : World} {f g : Nat → Value} {x : LinT} (h : linR w f x) (e : ∀ j, j < 2 → f j = g j) : linR w g x := by
  obtain ⟨h0, h1⟩ := h
  rw [e 0 (by decide)] at h0; rw [e 1 (by decide)] at h1
  exact ⟨h0, h1⟩
theorem ls_one {α : Type} {k B : Nat} {R : Rel α} {w : World} {v : Value} {l : List α} (h : LsAt k B R w v l) : v.oneCell' = true := by
  obtain ⟨⟨a, c, e, _⟩, _⟩ := h; subst e; rfl
theorem linR_one {w : World} {f : Nat → Value} {x : LinT} (h : linR w f x) (j : Nat) (hj : j < 2) : (f j).oneCell' = true := by
  obtain ⟨h0, h1⟩ := h
  have : j = 0 ∨ j = 1 := by omega
  rcases this with rfl | rfl
  · rw [h0]; rfl
  · exact ls_one h1
theorem linR_k : Rk 2 linR := ⟨linR_up, fun _ _ _ _ h e => linR_congr h e, fun _ _ _ h => linR_one h⟩
theorem monR_k : Rk 2 monR := ⟨monR_up, fun _ f g x h e => by
    obtain ⟨h0, h1⟩ := h
    rw [e 0 (by decide)] at h0; rw [e 1 (by decide)] at h1
    exact ⟨h0, h1⟩, fun _ f x h j hj => by
    obtain ⟨⟨h0, _⟩, h1⟩ := h
    have : j = 0 ∨ j = 1 := by omega
    rcases this with rfl | rfl
    · rw [h0]; rfl
    · rw [h1]; rfl⟩
theorem strR_k : Rk 1 strR := ⟨strR_up, fun _ f g x h e => by
    obtain ⟨h0, h1⟩ := h
    rw [e 0 (by decide)] at h0
    exact ⟨h0, h1⟩, fun _ f x h j hj => by
    obtain ⟨h0, h1⟩ := h
    obtain rfl : j = 0 := by omega
    rw [h0]; rfl⟩
theorem typR_congr {w : World} {f g : Nat → Value} {x : Typ} (h : typR w f x) (e : ∀ j, j < 5 → f j = g j) : typR w g x := by
  obtain ⟨h0, h1, h2, h3, h4⟩ := h
  rw [e _ (by decide)] at h0 h1 h2 h3 h4
  exact ⟨h0, h1, h2, h3, h4⟩
theorem typR_one {w : World} {f : Nat → Value} {x : Typ} (h : typR w f x) (j : Nat) (hj : j < 5) : (f j).oneCell' = true := by
  obtain ⟨h0, h1, h2, h3, h4⟩ := h
  have : j = 0 ∨ j = 1 ∨ j = 2 ∨ j = 3 ∨ j = 4 := by omega
  rcases this with rfl | rfl | rfl | rfl | rfl
  · rw [h0]; rfl
  · rw [h1]; rfl
  · rw [h2]; rfl
  · rw [h3]; rfl
  · rw [h4]; rfl
theorem axR_k : Rk 3 axR := ⟨axR_up, fun _ f g x h e => by
    obtain ⟨⟨h0, h0'⟩, h1⟩ := h
    rw [e 0 (by decide)] at h0
    exact ⟨⟨h0, h0'⟩, linR_congr h1 fun j hj => e (1 + j) (by omega)⟩, fun _ f x h j hj => by
    obtain ⟨⟨h0, h0'⟩, h1⟩ := h
    by_cases hj0 : j = 0
    · subst hj0; rw [h0]; rfl
    · obtain ⟨m, rfl⟩ : ∃ m, j = 1 + m := ⟨j - 1, by omega⟩
      exact linR_one h1 m (by omega)⟩
theorem ixR_k : Rk 4 ixR := ⟨ixR_up, fun _ f g x h e => by
    obtain ⟨h0, ⟨h1, h1'⟩, h2⟩ := h
    rw [e 2 (by decide)] at h1; rw [e 3 (by decide)] at h2
    exact ⟨linR_congr h0 fun j hj => e j (by omega), ⟨h1, h1'⟩, h2⟩, fun _ f x h j hj => by
    obtain ⟨h0, ⟨h1, h1'⟩, h2⟩ := h
    have : j < 2 ∨ j = 2 ∨ j = 3 := by omega
    rcases this with hj | rfl | rfl
    · exact linR_one h0 j hj
    · rw [h1]; rfl
    · exact ls_one h2⟩
theorem conR_k : Rk 3 conR := ⟨conR_up, fun _ f g x h e => by
    obtain ⟨h0, h1⟩ := h
    rw [e 2 (by decide)] at h1
    exact ⟨linR_congr h0 fun j hj => e j (by omega), h1⟩, fun _ f x h j hj => by
    obtain ⟨h0, h1⟩ := h
    have : j < 2 ∨ j = 2 := by omega
    rcases this with hj | rfl
    · exact linR_one h0 j hj
    · rw [h1]; rfl⟩
theorem parR_k : Rk 7 parR := ⟨parR_up, fun _ f g x h e => by
    obtain ⟨⟨h0, h0'⟩, h1, h2⟩ := h
    rw [e 0 (by decide)] at h0; rw [e 6 (by decide)] at h2
    exact ⟨⟨h0, h0'⟩, typR_congr h1 fun j hj => e (1 + j) (by omega), h2⟩, fun _ f x h j hj => by
    obtain ⟨⟨h0, h0'⟩, h1, h2⟩ := h
    have : j = 0 ∨ (1 ≤ j ∧ j < 6) ∨ j = 6 := by omega
    rcases this with rfl | hj | rfl
    · rw [h0]; rfl
    · obtain ⟨m, rfl⟩ : ∃ m, j = 1 + m := ⟨j - 1, by omega⟩
      exact typR_one h1 m (by omega)
    · exact ls_one h2⟩
theorem defR_k (n : Nat) : Rk 22 (defR n) := ⟨defR_up n, fun _ f g x h e => by
    obtain ⟨⟨h0, h0'⟩, h1, h2, h3, h4, h5⟩ := h
    rw [e 0 (by decide)] at h0; rw [e 6 (by decide)] at h2; rw [e 7 (by decide)] at h3; rw [e 8 (by decide)] at h4
    exact ⟨⟨h0, h0'⟩, typR_congr h1 fun j hj => e (1 + j) (by omega), h2, h3, h4, exR_congr n h5 fun j hj => e (9 + j) (by omega)⟩, fun _ f x h j hj => by
    obtain ⟨⟨h0, h0'⟩, h1, h2, h3, h4, h5⟩ := h
    have : j = 0 ∨ (1 ≤ j ∧ j < 6) ∨ j = 6 ∨ j = 7 ∨ j = 8 ∨ 9 ≤ j := by omega
    rcases this with rfl | hj | rfl | rfl | rfl | hj
    · rw [h0]; rfl
    · obtain ⟨m, rfl⟩ : ∃ m, j = 1 + m := ⟨j - 1, by omega⟩
      exact typR_one h1 m (by omega)
    · exact ls_one h2
    · exact ls_one h3
    · rw [h4]; rfl
    · obtain ⟨m, rfl⟩ : ∃ m, j = 9 + m := ⟨j - 9, by omega⟩
      exact exR_one h5 m (by omega)⟩
/-- A definition's body, out of its cells. -/
theorem CsAt.body {n : Nat} {w : World} {cs : Array Value} {d : Df} (h : CsAt 22 (defR n) w cs d) : CsAt 13 (exR n) w (cs.extract 9 (9 + 13)) d.body := by
  refine ⟨by rw [Array.size_extract, h.1]; rfl, ?_⟩
  exact exR_congr n h.2.2.2.2.2.2 fun j hj => (getD_extract (by rw [h.1]; decide) hj).symm
theorem def_u : ∃ d, Tryz.prog.underlying 50 = some d ∧ d.isRow = true := ⟨_, Tryz.underlying50, rfl⟩
theorem def_i : (Tryz.prog.info? 50).map (·.size) = some 22 := by kernel_rfl
theorem ex_u : ∃ d, Tryz.prog.underlying 48 = some d ∧ d.isRow = true := ⟨_, Tryz.underlying48, rfl⟩
theorem ex_i : (Tryz.prog.info? 48).map (·.size) = some 13 := by kernel_rfl
/-- A definition's load. -/
theorem run_def {w : World} {g o : Nat} {cs : Array Value} (hs : cs.size = 22) (hr : w.rangeAt g o cs.toList) : (Instr.loadAt 50 (.pointer (some ⟨g, o, none⟩))).run Tryz.prog w = .ok (.agg cs) w :=
  let ⟨_, h1, h2⟩ := def_u; run_cs h1 h2 def_i hs hr
theorem run_ex {w : World} {g o : Nat} {cs : Array Value} (hs : cs.size = 13) (hr : w.rangeAt g o cs.toList) : (Instr.loadAt 48 (.pointer (some ⟨g, o, none⟩))).run Tryz.prog w = .ok (.agg cs) w :=
  let ⟨_, h1, h2⟩ := ex_u; run_cs h1 h2 ex_i hs hr
end Go.Proofs.YtpccaifhcmcegaaGreat
end

section
namespace Go.Proofs.YtpccaifhcmcegaaGreat
set_option linter.unusedSimpArgs false
open Go.ChangeShapes Go.WideShapes Go.ChangeAt Go.RowKit
set_option linter.unusedVariables false
set_option maxRecDepth 100000

/-! ### Sets -/
theorem has_iff {l : List ByteArray} {s : ByteArray} : has l s = true ↔ s ∈ l := by
  unfold has
  rw [List.any_eq_true]
  exact ⟨fun ⟨x, hx, h⟩ => by rw [← of_decide_eq_true h]; exact hx, fun h => ⟨s, h, decide_eq_true rfl⟩⟩
theorem has_eq {l m : List ByteArray} {s : ByteArray} (h : s ∈ l ↔ s ∈ m) : has l s = has m s := by
  rw [Bool.eq_iff_iff, has_iff, has_iff]; exact h
theorem has_cons (x s : ByteArray) (l : List ByteArray) : has (x :: l) s = (decide (x = s) || has l s) := rfl
theorem has_del (x s : ByteArray) (l : List ByteArray) : has (l.filter fun y => !decide (y = x)) s = (!decide (s = x) && has l s) := by
  rw [Bool.eq_iff_iff, has_iff, List.mem_filter]
  simp [has_iff, and_comm]
theorem set_key : Go.Maps.Keyed Tryz.prog 9 := Go.Maps.string_keyed Tryz.underlying9
theorem zero_bool (w : World) : (zeroValue 4).run Tryz.prog w = .ok (.bool false) w := by kernel_rfl
theorem zero_int (w : World) : (zeroValue 3).run Tryz.prog w = .ok (.int .i64 0) w := by kernel_rfl
/-- Block b is a map from texts to true that holds just the texts of l. -/
def SetAt (w : World) (b n : Nat) (l : List ByteArray) : Prop :=
  ∃ D : DataW Unit, w.ownsMap Tryz.prog 9 (plainElem Tryz.prog 4) b n D ∧ ∀ s : ByteArray, s.size ≤ maxLen → D.atKey (.string s.data.toList) (.lit (.bool false)) = .lit (.bool (has l s))
/-- Block b is a map from texts to numbers. -/
def CntAt (w : World) (b n : Nat) (f : ByteArray → Nat) : Prop :=
  ∃ D : DataW Unit, w.ownsMap Tryz.prog 9 (plainElem Tryz.prog 3) b n D ∧ ∀ s : ByteArray, s.size ≤ maxLen → D.atKey (.string s.data.toList) (.lit (.int .i64 0)) = .lit (.int .i64 (f s))
theorem str_lit_ne {s x : ByteArray} (h : s ≠ x) : (Lit.string s.data.toList) ≠ Lit.string x.data.toList := fun e => h (by
  have : s.data.toList = x.data.toList := by injection e
  obtain ⟨⟨a⟩⟩ := s
  obtain ⟨⟨b⟩⟩ := x
  simp_all)
theorem str_key {s : ByteArray} (hs : s.size ≤ maxLen) : keyOf Tryz.prog 9 (.string s) = some (.string s.data.toList) := WideMaps.keyOf_string_mk Tryz.underlying9 hs
theorem SetAt.made (w : World) : SetAt (w.alloc (.map #[] 0)) w.heap.size 0 [] :=
  ⟨.map [], World.ownsMap_made _ _ _ _, fun s _ => by simp [DataW.atKey, has]⟩
theorem CntAt.made (w : World) : CntAt (w.alloc (.map #[] 0)) w.heap.size 0 (fun _ => 0) :=
  ⟨.map [], World.ownsMap_made _ _ _ _, fun s _ => by simp [DataW.atKey]⟩
theorem SetAt.lt {w : World} {b n : Nat} {l : List ByteArray} (h : SetAt w b n l) : b < w.heap.size := let ⟨_, h, _⟩ := h; h.lt
theorem CntAt.lt {w : World} {b n : Nat} {f : ByteArray → Nat} (h : CntAt w b n f) : b < w.heap.size := let ⟨_, h, _⟩ := h; h.lt
theorem SetAt.kept {w w' : World} {b n : Nat} {l : List ByteArray} {row : Option Nat} (h : SetAt w b n l) (hg : w.grownBy w' row) (hne : some b ≠ row) : SetAt w' b n l := let ⟨D, h, e⟩ := h; ⟨D, h.kept hg hne, e⟩
theorem CntAt.kept {w w' : World} {b n : Nat} {f : ByteArray → Nat} {row : Option Nat} (h : CntAt w b n f) (hg : w.grownBy w' row) (hne : some b ≠ row) : CntAt w' b n f := let ⟨D, h, e⟩ := h; ⟨D, h.kept hg hne, e⟩
theorem Up.by {w w' : World} (h : Up w w') : w.grownBy w' none := ⟨Below.os h, Below.tape h, Below.output h, Below.size h, fun k hk _ => Below.block h k hk⟩
theorem SetAt.up {w w' : World} {b n : Nat} {l : List ByteArray} (h : SetAt w b n l) (u : Up w w') : SetAt w' b n l := h.kept u.by (by simp)
theorem CntAt.up {w w' : World} {b n : Nat} {f : ByteArray → Nat} (h : CntAt w b n f) (u : Up w w') : CntAt w' b n f := h.kept u.by (by simp)
theorem SetAt.mono {w : World} {b n m : Nat} {l : List ByteArray} (h : SetAt w b n l) (hm : n ≤ m) : SetAt w b m l := let ⟨D, h, e⟩ := h; ⟨D, h.mono hm, e⟩
theorem SetAt.congr {w : World} {b n : Nat} {l m : List ByteArray} (h : SetAt w b n l) (hm : ∀ s, s ∈ l ↔ s ∈ m) : SetAt w b n m := let ⟨D, h, e⟩ := h; ⟨D, h, fun s hs => by rw [e s hs, has_eq (hm s)]⟩
theorem CntAt.congr {w : World} {b n : Nat} {f g : ByteArray → Nat} (h : CntAt w b n f) (hm : ∀ s, f s = g s) : CntAt w b n g := let ⟨D, h, e⟩ := h; ⟨D, h, fun s hs => by rw [e s hs, hm]⟩
theorem BoxC.kept {w w' : World} {g : Nat} {t : TypeId} {cs : Array Value} {row : Option Nat} (h : BoxC w g t cs) (hg : w.grownBy w' row) (hne : some g ≠ row) : BoxC w' g t cs := (hg.block g h.lt hne).trans h
theorem Up.grown' {a w w' : World} {row : Option Nat} (h : Up a w) (hg : w.grownBy w' row) (hr : ∀ k, row = some k → a.heap.size ≤ k) : Up a w' := Below.grown h hg h.size hr

theorem SetAt.look {w : World} {b n : Nat} {l : List ByteArray} (h : SetAt w b n l) {s : ByteArray} (hs : s.size ≤ maxLen) : (Instr.lookup 66 (.map (some b)) (.string s) false).run Tryz.prog w = .ok (.bool (has l s)) w := by
  obtain ⟨D, hown, hD⟩ := h
  obtain ⟨v, ps, hrun, hv⟩ := hown.lookup set_key Tryz.underlying66 (zero_bool w) (plainElem_bool Tryz.underlying4 false) (str_key hs)
  rw [hD s hs] at hv
  have e : v = .bool (has l s) := by
    unfold plainElem at hv
    rw [Tryz.underlying4] at hv
    cases v <;> simp at hv
    rw [hv.1]
  rw [← e]; exact hrun
theorem SetAt.put {w : World} {b n : Nat} {l : List ByteArray} (h : SetAt w b n l) {s : ByteArray} (hs : s.size ≤ maxLen) (hn : n < maxLen) : ∃ w', (Instr.mapUpdate 66 (.map (some b)) (.string s) (.bool true)).run Tryz.prog w = .ok () w' ∧ SetAt w' b (n + 1) (s :: l) ∧ w.grownBy w' (some b) := by
  obtain ⟨D, hown, hD⟩ := h
  obtain ⟨w', hrun, h1, h2⟩ := hown.update set_key Tryz.underlying66 hn (str_key hs) (plainElem_bool Tryz.underlying4 true)
  refine ⟨w', hrun, ⟨_, h1, fun x hx => ?_⟩, h2⟩
  by_cases e : x = s
  · subst e
    rw [Go.Maps.atKey_put_same hown.isMap (set_key.key (str_key hs)), has_cons, decide_eq_true rfl]; rfl
  · rw [Go.Maps.atKey_put_other (str_lit_ne e), hD x hx, has_cons, decide_eq_false (fun h => e h.symm)]; rfl
theorem SetAt.del {w : World} {b n : Nat} {l : List ByteArray} (h : SetAt w b n l) {s : ByteArray} (hs : s.size ≤ maxLen) (ty : TypeId) : ∃ w', (Builtin.delete_ #[66, 9] ty #[.map (some b), .string s]).run Tryz.prog w = .ok (.tuple #[]) w' ∧ SetAt w' b n (l.filter fun y => !decide (y = s)) ∧ w.grownBy w' (some b) := by
  obtain ⟨D, hown, hD⟩ := h
  obtain ⟨w', hrun, h1, h2⟩ := hown.drop set_key Tryz.underlying66 (str_key hs) ty
  refine ⟨w', hrun, ⟨_, h1, fun x hx => ?_⟩, h2.grown⟩
  rw [has_del]
  by_cases e : x = s
  · subst e
    rw [Go.Maps.atKey_del_same, decide_eq_true rfl]; rfl
  · rw [Go.Maps.atKey_del_other (str_lit_ne e), hD x hx, decide_eq_false e]; rfl
theorem CntAt.look {w : World} {b n : Nat} {f : ByteArray → Nat} (h : CntAt w b n f) {s : ByteArray} (hs : s.size ≤ maxLen) : (Instr.lookup 64 (.map (some b)) (.string s) false).run Tryz.prog w = .ok (.int .i64 (f s)) w := by
  obtain ⟨D, hown, hD⟩ := h
  obtain ⟨c, hrun, hat, _⟩ := hown.lookup_int set_key Tryz.underlying64 Tryz.underlying3 (zero_int w) (str_key hs)
  rw [hD s hs] at hat
  have e : c = (f s : Int) := by injection hat with h; injection h with _ h; exact h.symm
  rw [← e]; exact hrun
theorem CntAt.put {w : World} {b n : Nat} {f : ByteArray → Nat} (h : CntAt w b n f) {s : ByteArray} (hs : s.size ≤ maxLen) (hn : n < maxLen) (k : Nat) (hk : k < 9223372036854775808) : ∃ w', (Instr.mapUpdate 64 (.map (some b)) (.string s) (.int .i64 k)).run Tryz.prog w = .ok () w' ∧ CntAt w' b (n + 1) (fun x => if x = s then k else f x) ∧ w.grownBy w' (some b) := by
  obtain ⟨D, hown, hD⟩ := h
  obtain ⟨w', hrun, h1, h2⟩ := hown.update set_key Tryz.underlying64 hn (str_key hs) (plainElem_int Tryz.underlying3 (a := (k : Int)) (WalkArith.wf_i64 ⟨by omega, by omega⟩))
  refine ⟨w', hrun, ⟨_, h1, fun x hx => ?_⟩, h2⟩
  by_cases e : x = s
  · subst e
    rw [Go.Maps.atKey_put_same hown.isMap (set_key.key (str_key hs))]
    show _ = DataW.lit (.int .i64 ((if x = x then k else f x : Nat) : Int))
    rw [if_pos rfl]
  · rw [Go.Maps.atKey_put_other (str_lit_ne e), hD x hx]
    show _ = DataW.lit (.int .i64 ((if x = s then k else f x : Nat) : Int))
    rw [if_neg e]
/-! ### The operations, for the walk: arms -/
section
variable {ops : Array Oper} {rest : List Oper} {a : Act} {Q : Exit → Act → World → Prop} {w : World}
theorem st_look {b n : Nat} {l : List ByteArray} (h : SetAt w b n l) {s : ByteArray} (hs : s.size ≤ maxLen) {dst : Option Nat} {m x : Operand} {ty : TypeId} {pos : String} {af : Array Edge} (hm : a.eval m = .map (some b)) (hx : a.eval x = .string s)
    (K : wpList Tryz.prog ops Q rest (a.put dst (.bool (has l s))) w) : wpList Tryz.prog ops Q ({ dst := dst, op := .lookup 66 m x false, type := ty, pos := pos, after := af, guard := none } :: rest) a w :=
  wpList_plain rfl fun _ hK => by
    unfold Oper.wp execOp
    simp only [hm, hx, h.look hs, Sem.run_bind, Sem.run_pure, Result.andThen_ok]
    exact hK _ _ K
theorem st_cnt {b n : Nat} {f : ByteArray → Nat} (h : CntAt w b n f) {s : ByteArray} (hs : s.size ≤ maxLen) {dst : Option Nat} {m x : Operand} {ty : TypeId} {pos : String} {af : Array Edge} (hm : a.eval m = .map (some b)) (hx : a.eval x = .string s)
    (K : wpList Tryz.prog ops Q rest (a.put dst (.int .i64 (f s))) w) : wpList Tryz.prog ops Q ({ dst := dst, op := .lookup 64 m x false, type := ty, pos := pos, after := af, guard := none } :: rest) a w :=
  wpList_plain rfl fun _ hK => by
    unfold Oper.wp execOp
    simp only [hm, hx, h.look hs, Sem.run_bind, Sem.run_pure, Result.andThen_ok]
    exact hK _ _ K
theorem st_put {b n : Nat} {l : List ByteArray} (h : SetAt w b n l) {s : ByteArray} (hs : s.size ≤ maxLen) (hn : n < maxLen) {dst : Option Nat} {m x v : Operand} {ty : TypeId} {pos : String} {af : Array Edge} (hm : a.eval m = .map (some b)) (hx : a.eval x = .string s) (hv : a.eval v = .bool true)
    (K : ∀ w', SetAt w' b (n + 1) (s :: l) → w.grownBy w' (some b) → wpList Tryz.prog ops Q rest (a.put dst undef) w') : wpList Tryz.prog ops Q ({ dst := dst, op := .mapUpdate 66 m x v, type := ty, pos := pos, after := af, guard := none } :: rest) a w :=
  wpList_plain rfl fun _ hK => by
    obtain ⟨w', hrun, h1, h2⟩ := h.put hs hn
    unfold Oper.wp execOp
    simp only [hm, hx, hv, hrun, Sem.run_bind, Sem.run_pure, Result.andThen_ok]
    exact hK _ _ (K w' h1 h2)
theorem st_ins {b n : Nat} {l : List ByteArray} (h : SetAt w b n l) {s : ByteArray} (hs : s.size ≤ maxLen) (hn : n < maxLen) {dst : Option Nat} {m x v : Operand} {ty : TypeId} {pos : String} {af : Array Edge} (hm : a.eval m = .map (some b)) (hx : a.eval x = .string s) (hv : a.eval v = .bool true)
    (K : ∀ w', SetAt w' b (n + 1) (s :: l) → w.grownBy w' (some b) → wpList Tryz.prog ops Q rest (a.put dst undef) w') : wpList Tryz.prog ops Q ({ dst := dst, op := .insert 66 m x v, type := ty, pos := pos, after := af, guard := none } :: rest) a w :=
  wpList_plain rfl fun _ hK => by
    obtain ⟨w', hrun, h1, h2⟩ := h.put hs hn
    unfold Oper.wp execOp
    simp only [hm, hx, hv, hrun, Sem.run_bind, Sem.run_pure, Result.andThen_ok]
    exact hK _ _ (K w' h1 h2)
theorem st_cput {b n : Nat} {f : ByteArray → Nat} (h : CntAt w b n f) {s : ByteArray} (hs : s.size ≤ maxLen) (hn : n < maxLen) (k : Nat) (hk : k < 9223372036854775808) {dst : Option Nat} {m x v : Operand} {ty : TypeId} {pos : String} {af : Array Edge} (hm : a.eval m = .map (some b)) (hx : a.eval x = .string s) (hv : a.eval v = .int .i64 k)
    (K : ∀ w', CntAt w' b (n + 1) (fun x => if x = s then k else f x) → w.grownBy w' (some b) → wpList Tryz.prog ops Q rest (a.put dst undef) w') : wpList Tryz.prog ops Q ({ dst := dst, op := .mapUpdate 64 m x v, type := ty, pos := pos, after := af, guard := none } :: rest) a w :=
  wpList_plain rfl fun _ hK => by
    obtain ⟨w', hrun, h1, h2⟩ := h.put hs hn k hk
    unfold Oper.wp execOp
    simp only [hm, hx, hv, hrun, Sem.run_bind, Sem.run_pure, Result.andThen_ok]
    exact hK _ _ (K w' h1 h2)
theorem st_del {b n : Nat} {l : List ByteArray} (h : SetAt w b n l) {s : ByteArray} (hs : s.size ≤ maxLen) {dst : Option Nat} {m x : Operand} {ty : TypeId} {pos : String} {af : Array Edge} (hm : a.eval m = .map (some b)) (hx : a.eval x = .string s)
    (K : ∀ w', SetAt w' b n (l.filter fun y => !decide (y = s)) → w.grownBy w' (some b) → wpList Tryz.prog ops Q rest (a.put dst (.tuple #[])) w') : wpList Tryz.prog ops Q ({ dst := dst, op := .call { callee := .builtin .delete, args := #[m, x], argTypes := #[66, 9] }, type := ty, pos := pos, after := af, guard := none } :: rest) a w :=
  wpList_plain rfl fun _ hK => by
    obtain ⟨w', hrun, h1, h2⟩ := h.del hs ty
    unfold Oper.wp
    simp [execOp, resolve, invoke, builtin, hm, hx, hrun, Result.andThen]
    exact hK _ _ (K w' h1 h2)
end

/-! ### Own rows -/
/-- A slice type: its elements' type has k cells and B bytes. -/
structure RowT (T E : TypeId) (k B : Nat) : Prop where
  sl : Tryz.prog.underlying T = some (.slice E)
  info : ∃ i z, Tryz.prog.info? E = some i ∧ i.zero = some z ∧ i.size = k ∧ i.bytes = B ∧ z.cells.size = k
  pos : 0 < k
theorem rowT_of {T E : TypeId} {k B : Nat} {z : Value} (hs : Tryz.prog.underlying T = some (.slice E)) (hi : (Tryz.prog.info? E).map (fun i => (i.zero, i.size, i.bytes)) = some (some z, k, B)) (hz : z.cells.size = k) (hk : 0 < k) : RowT T E k B := by
  obtain ⟨i, h0, h1, h2, h3⟩ := info_parts hi
  exact ⟨hs, ⟨i, z, h0, h1, h2, h3, hz⟩, hk⟩
theorem rowT_str : RowT 22 9 1 16 := rowT_of Tryz.underlying22 string_info rfl (by decide)
theorem rowT_ex : RowT 46 48 13 160 := rowT_of Tryz.underlying46 expr_info rfl (by decide)
theorem def_info : (Tryz.prog.info? 50).map (fun i => (i.zero, i.size, i.bytes)) = some (some (.agg #[.string ByteArray.empty, .int .i64 0, .int .i64 0, .int .i64 0, .int .i64 0, .int .i64 0, .slice none 0 0, .slice none 0 0, .int .i64 0, .int .i64 0, .string ByteArray.empty, .int .i64 0, .int .i64 0, .int .i64 0, .int .i64 0, .int .i64 0, .int .i64 0, .int .i64 0, .int .i64 0, .slice none 0 0, .slice none 0 0, .slice none 0 0]), 22, 272) := by kernel_rfl
theorem rowT_def : RowT 25 50 22 272 := rowT_of Tryz.underlying25 def_info rfl (by decide)

/-- One element, just laid, as a slice. -/
theorem LsAt.laid {α : Type} {k B : Nat} {R : Rel α} {W : World} {E : TypeId} {cs : Array Value} {x : α} (hs : cs.size = k) (hB : B ≤ 140737488351232) (h : R (W.alloc (.cells cs E)) (fun j => cs.getD j undef) x) : LsAt k B R (W.alloc (.cells cs E)) (.slice (some ⟨W.heap.size, 0, none⟩) 1 1) [x] := by
  refine ⟨⟨_, 1, rfl, Nat.le_refl _⟩, by simpa using hB, fun _ j => cs.getD j undef, SlAt.lay W E cs 1 k _ (by decide) (fun i j hi hj => ?_), fun i hi => ?_⟩
  · obtain rfl : i = 0 := by omega
    rw [Nat.zero_mul, Nat.zero_add, Array.getD_eq_getD_getElem?, Array.getElem?_eq_getElem (by omega)]; rfl
  · have : i = 0 := by simp at hi; exact hi
    subst this
    exact h
/-- A row that the call owns: elements that read by a fixed relation. -/
abbrev OwnR {α : Type} (k : Nat) (R0 : (Nat → Value) → α → Prop) (base : Nat) (e : TypeId) (w : World) (v : Value) (l : List α) : Prop := OwnL k (fun _ => R0) base e w v l
theorem own_kept {w w' : World} {base n k : Nat} {e : TypeId} {v : Value} {xs : List Value} {row : Option Nat} (h : w.ownsRow base e k v n xs) (hg : w.grownBy w' row) (hne : ∀ g, v.ownBlock = some g → some g ≠ row) : w'.ownsRow base e k v n xs := h.kept hg (by
  cases e : v.ownBlock with
  | none => exact .inl rfl
  | some g => exact .inr (hne g e))
theorem own_keptL {α : Type} {k : Nat} {R0 : (Nat → Value) → α → Prop} {base : Nat} {e : TypeId} {w w' : World} {v : Value} {l : List α} {row : Option Nat} (h : OwnR k R0 base e w v l) (hg : w.grownBy w' row) (hne : ∀ g, v.ownBlock = some g → some g ≠ row) : OwnR k R0 base e w' v l := let ⟨F, h1, h2⟩ := h; ⟨F, own_kept h1 hg hne, h2⟩
theorem OwnL.base {α : Type} {k : Nat} {R : Rel α} {base : Nat} {e : TypeId} {w : World} {v : Value} {l : List α} (h : OwnL k R base e w v l) : ∀ g, v.ownBlock = some g → base ≤ g := let ⟨F, h1, _⟩ := h; own_base h1
theorem OwnL.cap {α : Type} {k : Nat} {R : Rel α} {base n c : Nat} {a : Option Addr} {e : TypeId} {w : World} {l : List α} (h : OwnL k R base e w (.slice a n c) l) : n ≤ c := by
  obtain ⟨F, h1, _⟩ := h
  obtain ⟨a', c', e'⟩ := own_slice h1
  cases e'
  exact own_cap h1
section
variable {ops : Array Oper} {rest : List Oper} {a : Act} {Q : Exit → Act → World → Prop} {w : World}
/-- append(x, y...), x a row of the call's own. -/
theorem st_app {α : Type} {T E : TypeId} {k B : Nat} (hT : RowT T E k B) {R0 : (Nat → Value) → α → Prop} (h1 : ∀ f x, R0 f x → ∀ j, j < k → (f j).oneCell' = true) {base : Nat} {v u : Value} {l m : List α} {n mm : Nat} (hn : l.length = n) (hm : m.length = mm)
    (H : OwnR k R0 base E w v l) (S : LsAt k B (fun _ => R0) w u m) (hb : (n + mm) * B ≤ 140737488355328) (hB : 1 ≤ B) (hbase : base ≤ w.heap.size) {dst : Option Nat} {x y : Operand} {ty : TypeId} {pos : String} {af : Array Edge} (hx : a.eval x = v) (hy : a.eval y = u)
    (K : ∀ (va : Option Addr) (vc : Nat) w', OwnR k R0 base E w' (.slice va (n + mm) vc) (l ++ m) → w.grownBy w' v.ownBlock → ((Value.slice va (n + mm) vc).ownBlock = v.ownBlock ∨ (Value.slice va (n + mm) vc).ownBlock = some w.heap.size) → wpList Tryz.prog ops Q rest (a.put dst (.slice va (n + mm) vc)) w') :
    wpList Tryz.prog ops Q ({ dst := dst, op := .call { callee := .builtin .append, args := #[x, y], argTypes := #[T, T] }, type := ty, pos := pos, after := af, guard := none } :: rest) a w := by
  obtain ⟨i, z, i0, i1, i2, i3, i4⟩ := hT.info
  subst hn hm
  obtain ⟨F, hF, hR⟩ := H
  obtain ⟨_, _, G, hG, hS⟩ := S
  have hle : l.length + m.length ≤ maxLen := by
    have h := Nat.mul_le_mul_left (l.length + m.length) hB
    have e : maxLen = 9223372036854775807 := rfl
    omega
  refine wpList_append_sl w rfl x y T rfl base E i z k B hT.sl i0 i1 i2 i3 i4 hT.pos v l.length _ hx hF u m.length G hy hG (fun i j hi hj => h1 _ _ (hS i hi) j hj) hle hb hbase fun v' w' g1 g2 g3 g4 => ?_
  obtain ⟨va, vc, rfl⟩ := own_slice g1
  exact K va vc w' (OwnL.app hT.pos g1 hR hS) g2 g3
end
def strQ (f : Nat → Value) (s : ByteArray) : Prop := f 0 = .string s ∧ s.size ≤ maxLen
theorem strQ_one : ∀ (f : Nat → Value) x, strQ f x → ∀ j, j < 1 → (f j).oneCell' = true := fun f x h j hj => by
  obtain rfl : j = 0 := by omega
  rw [h.1]; rfl
/-- A row of texts of the call's own. -/
abbrev OwnS (base : Nat) (w : World) (v : Value) (l : List ByteArray) : Prop := OwnR 1 strQ base 9 w v l
theorem LsAt.ofS {w : World} {v : Value} {l : List ByteArray} (h : LsAt 1 16 (fun _ => strQ) w v l) : LsAt 1 16 strR w v l := h
theorem LsAt.one_str (W : World) {s : ByteArray} (hs : s.size ≤ maxLen) : LsAt 1 16 (fun _ => strQ) (W.alloc (.cells #[.string s] 9)) (.slice (some ⟨W.heap.size, 0, none⟩) 1 1) [s] :=
  LsAt.laid (R := fun _ => strQ) rfl (by decide) ⟨rfl, hs⟩
/-- Texts lie in one block: they stay while it is not written. -/
theorem LsAt.str_kept {w w' : World} {v : Value} {l : List ByteArray} {row : Option Nat} (h : LsAt 1 16 strR w v l) (hg : w.grownBy w' row) (hne : ∀ a n c, v = .slice (some a) n c → some a.block ≠ row) : LsAt 1 16 strR w' v l := by
  obtain ⟨h1, hb, F, ⟨⟨a, c, e, h0, hx⟩, hm⟩, hR⟩ := h
  refine ⟨h1, hb, F, ⟨⟨a, c, e, h0, fun x hx' hp => ?_⟩, hm⟩, hR⟩
  obtain ⟨g1, g2, g3⟩ := hx x hx' hp
  have hn := hne x l.length c (by rw [e, hx'])
  exact ⟨g1, Nat.lt_of_lt_of_le g2 hg.size, fun i j hi hj => (World.cell?_of_block (w := w) (a := ⟨x.block, x.off + i * 1 + j, none⟩) (hg.block _ g2 hn)).trans (g3 i j hi hj)⟩
end Go.Proofs.YtpccaifhcmcegaaGreat
end

section
namespace Go.Proofs.YtpccaifhcmcegaaGreat
set_option linter.unusedSimpArgs false
open Go.ChangeShapes Go.WideShapes Go.ChangeAt Go.RowKit
set_option linter.unusedVariables false
set_option maxRecDepth 100000

/-- A text behind a list, if it is not on it. -/
def addU (l : List ByteArray) (s : ByteArray) : List ByteArray := if has l s = true then l else l ++ [s]
/-- Each text once, at its first place. -/
def uniq (l : List ByteArray) : List ByteArray := l.foldl addU []
theorem uniq_take {l : List ByteArray} {i n : Nat} (hn : l.length = n) (hi : i < n) : uniq (l.take (i + 1)) = addU (uniq (l.take i)) (l[i]'(by omega)) := by
  subst hn
  unfold uniq
  rw [List.take_succ_eq_append_getElem hi, List.foldl_append]; rfl
theorem addU_len (l : List ByteArray) (s : ByteArray) : (addU l s).length ≤ l.length + 1 := by
  unfold addU; split <;> simp
theorem foldl_addU_len : ∀ (m l : List ByteArray), (m.foldl addU l).length ≤ l.length + m.length
  | [], l => by simp
  | s :: r, l => by
    rw [List.foldl_cons, List.length_cons]
    have h1 := foldl_addU_len r (addU l s)
    have h2 := addU_len l s
    omega
theorem uniq_len (l : List ByteArray) : (uniq l).length ≤ l.length := by
  have := foldl_addU_len l []
  simpa [uniq] using this
theorem LsN.ls {B : Nat} {w : World} {v : Value} {l : List ByteArray} (h : LsN B w v l) : LsAt 1 16 strR w v l := h.1
theorem LsN.new {B : Nat} {w : World} {v : Value} {l : List ByteArray} (h : LsN B w v l) : NewFrom B v := h.2
/-- A result that lies in new memory. -/
abbrev NewS (w w' : World) (u : Value) (l : List ByteArray) : Prop := LsN w.heap.size w' u l
theorem OwnS.new {base : Nat} {w w' : World} {v : Value} {l : List ByteArray} (h : OwnS base w' v l) (hb : w.heap.size ≤ base) (hl : l.length * 16 ≤ 140737488351232) : NewS w w' v l := by
  refine ⟨OwnL.ls h (by decide) hl, fun a n c e => ?_⟩
  obtain ⟨F, h1, _⟩ := h
  rcases h1.2 with ⟨rfl, _⟩ | ⟨g, cap, cur, rfl, hg, _⟩
  · cases e
  · cases e; exact Nat.le_trans hb hg
theorem NewS.nil (w w' : World) : NewS w w' (.slice none 0 0) [] := ⟨LsAt.nil 1 16 strR _, fun _ _ _ h => by cases h⟩
/-- A text of a list: its cell. -/
theorem LsAt.txt {w : World} {a : Option Addr} {n c : Nat} {l : List ByteArray} (h : LsAt 1 16 strR w (.slice a n c) l) (i : Nat) (hi : i < l.length) :
    ∃ (g o : Nat), a = some ⟨g, o, none⟩ ∧ g < w.heap.size ∧ l[i].size ≤ maxLen ∧ ∀ y, Up w y → y.cell? ⟨g, o + i, none⟩ = some (.string l[i]) := by
  obtain ⟨g, o, f, e, hg, hf, h0, hs⟩ := h.elem i hi
  refine ⟨g, o, e, hg, hs, fun y hy => ?_⟩
  have := hf 0 (by decide)
  rw [Nat.mul_one, Nat.add_zero, h0] at this
  exact (hy.cell _ _ hg).trans this

set_option maxHeartbeats 8000000 in
theorem dg_unique (v : Value) (l : List ByteArray) (w : World) (hv : LsAt 1 16 strR w v l) (hl : l.length ≤ 1000000) :
    Calls Tryz.prog 33 #[v] w fun e w' => ∃ u, e = .returned u ∧ Up w w' ∧ NewS w w' u (uniq l) := by
  obtain ⟨a, c, rfl, hc⟩ := hv.shape
  obtain ⟨n, hn⟩ : ∃ n, l.length = n := ⟨_, rfl⟩
  rw [hn] at hv hl ⊢
  have hnI : (n : Int) ≤ 1000000 := by omega
  have HV := Lib.hid hv
  have HN := Lib.hid hn
  have HL := Lib.hid hl
  clear hv hn hl hc
  have HU0 : Hid (Up w (w.alloc (.map #[] 0))) := Lib.hid ((Up.refl w).alloc _)
  have HS0 := Lib.hid (SetAt.made w)
  have hmm := @run_makeMap Tryz.prog
  go_enter Tryz.func33, Tryz.ntmps33
  go_wp2
  go_loopw [4, 10] (fun ov iv wr => ∃ i : Nat, iv = .int .i64 i ∧ i ≤ n ∧ Up w wr ∧ SetAt wr w.heap.size i (uniq (l.take i)) ∧ OwnS (w.heap.size + 1) wr ov (uniq (l.take i))) (fun _ iv _ => n - (intOf iv).toNat)
  case atStart => exact ⟨0, rfl, Nat.zero_le _, HU0.out, HS0.out, OwnL.nil⟩
  case round =>
    rename World => wr
    obtain ⟨i, rfl, hi, hup, hst, hrow⟩ := hrel
    have HU := Lib.hid hup
    have HS := Lib.hid hst
    have HLN : Hid ((uniq (l.take i)).length ≤ i) := Lib.hid (Nat.le_trans (uniq_len _) (by rw [List.length_take]; omega))
    obtain ⟨U, hU⟩ : ∃ U, uniq (l.take i) = U := ⟨_, rfl⟩
    have HUE := Lib.hid hU
    rw [hU] at HS HLN hrow
    obtain ⟨va, vc, rfl⟩ := hrow.shape
    have HR := Lib.hid hrow
    obtain ⟨m, hm⟩ : ∃ m, U.length = m := ⟨_, rfl⟩
    rw [hm] at HR HLN ⊢
    have HM := Lib.hid hm
    clear hup hst hrow hU hm HU0 HS0
    by_cases hlt : i < n
    · have hltI : (i : Int) < n := by omega
      obtain ⟨g, o, rfl, hg, hsz, hc⟩ := HV.out.txt i (by rw [HN.out]; exact hlt)
      have HT := Lib.hid (uniq_take HN.out hlt)
      rw [HUE.out] at HT
      have hc1 := hc wr HU.out
      have hg' := Nat.lt_of_lt_of_le hg HU.out.size
      obtain ⟨x, hx⟩ : ∃ x, l[i]'(by rw [HN.out]; exact hlt) = x := ⟨_, rfl⟩
      rw [hx] at hsz hc1
      have HT : Hid (uniq (l.take (i + 1)) = addU U x) := Lib.hid (by rw [← hx]; exact HT.out)
      have HSZ := Lib.hid hsz
      clear hx hsz hc
      obtain ⟨b, hb⟩ : ∃ b, has U x = b := ⟨_, rfl⟩
      have HB := Lib.hid hb
      have HLK := Lib.hid (fun (ops : Array Oper) => @st_look ops)
      cases b
      · have HA : Hid (addU U x = U ++ [x]) := Lib.hid (by unfold addU; rw [HB.out]; rfl)
        clear hb
        go_wp2_with (first
          | (refine st_look HS.out HSZ.out (by rfl) (by rfl) ?_; rw [HB.out])
          | (refine st_put HS.out HSZ.out (by unfold maxLen; omega) (by rfl) (by rfl) (by rfl) ?_; intro w1 h1 h2; have HS1 := Lib.hid h1; have HG1 := Lib.hid h2; have HU1 := Lib.hid (HU.out.grown' h2 (fun k e => by cases e; exact Nat.le_refl _)); clear h1 h2)
          | (at_builtin; refine st_app (mm := 1) rowT_str strQ_one HM.out (by rfl) (H := OwnL.up (fun _ _ _ _ h _ => h) (own_keptL HR.out HG1.out (fun g hg e => by cases e; have := HR.out.base _ hg; omega)) ((Up.refl _).alloc _)) (S := LsAt.one_str _ HSZ.out) (by have := HLN.out; omega) (by decide) (by have := HU1.out.size; have := HS1.out.lt; simp only [World.size_alloc]; omega) (by rfl) (by rfl) ?_; intro ua uc w2 h1 h2 h3; have HR2 := Lib.hid h1; have HG2 := Lib.hid h2; clear h1 h2 h3))
        go_roundw
        case rel =>
          refine ⟨i + 1, by go_num, by omega, ((HU1.out.alloc _).grown' HG2.out fun k e => by have := HR.out.base k e; omega), ?_, ?_⟩
          · rw [HT.out, HA.out]
            refine ((HS1.out.up ((Up.refl _).alloc _)).kept HG2.out fun e => ?_).congr fun s => by simp [or_comm]
            have := HR.out.base _ e.symm
            omega
          · rw [HT.out, HA.out]; exact HR2.out
        case measure => simp [intOf]; omega
      · have HA : Hid (addU U x = U) := Lib.hid (by unfold addU; rw [HB.out]; rfl)
        clear hb
        go_wp2_with (refine st_look HS.out HSZ.out (by rfl) (by rfl) ?_; rw [HB.out])
        go_roundw
        case rel =>
          refine ⟨i + 1, by go_num, by omega, HU.out, ?_, ?_⟩
          · rw [HT.out, HA.out]; exact HS.out.mono (Nat.le_succ _)
          · rw [HT.out, HA.out]; exact HR.out
        case measure => simp [intOf]; omega
    · obtain rfl : i = n := by omega
      have HTK : Hid (l.take i = l) := Lib.hid (List.take_of_length_le (by rw [HN.out]; exact Nat.le_refl _))
      go_wp2
      go_ret
      refine ⟨_, rfl, HU.out, ?_⟩
      have := HUE.out
      rw [HTK.out] at this
      rw [this]
      exact OwnS.new HR.out (Nat.le_succ _) (by have := HLN.out; have := HM.out; have := HL.out; omega)
end Go.Proofs.YtpccaifhcmcegaaGreat
end
