/-
  Joined by a program: DgV, DgLp.
-/
import Derived.Test.YtpccaifhcmcegaaGreatHl
import Derived.Test.YtpccaifhcmcegaaGreatDgJ
import Derived.Deep.LoopGhost

section
namespace Go.Proofs.YtpccaifhcmcegaaGreat
set_option linter.unusedSimpArgs false
open Go.ChangeShapes Go.WideShapes Go.ChangeAt Go.RowKit
set_option linter.unusedVariables false
set_option maxRecDepth 100000

theorem int_info : (Tryz.prog.info? 3).map (fun i => (i.zero, i.size, i.bytes)) = some (some (.int .i64 0), 1, 8) := by kernel_rfl
theorem strs_info : (Tryz.prog.info? 22).map (fun i => (i.zero, i.size, i.bytes)) = some (some (.slice none 0 0), 1, 24) := by kernel_rfl
theorem rowT_int : RowT 82 3 1 8 := rowT_of Tryz.underlying82 int_info rfl (by decide)
theorem rowT_strs : RowT 57 22 1 24 := rowT_of Tryz.underlying57 strs_info rfl (by decide)
def intQ (f : Nat → Value) (n : Nat) : Prop := f 0 = .int .i64 n
theorem intQ_one : ∀ (f : Nat → Value) x, intQ f x → ∀ j, j < 1 → (f j).oneCell' = true := fun f x h j hj => by
  obtain rfl : j = 0 := by omega
  rw [h]; rfl
/-- A row of numbers of the call's own. -/
abbrev OwnI (base : Nat) (w : World) (v : Value) (l : List Nat) : Prop := OwnR 1 intQ base 3 w v l
/-- A row of rows of texts of the call's own: each is a row of its own. -/
def innR : Rel (List ByteArray) := fun w f l => OwnS 0 w (f 0) l ∧ l.length ≤ 1000000
abbrev OwnW (base : Nat) (w : World) (v : Value) (l : List (List ByteArray)) : Prop := OwnL 1 innR base 22 w v l
theorem inn_up : UpR innR := fun _ _ _ _ h u => ⟨OwnL.up (fun _ _ _ _ h _ => h) h.1 u, h.2⟩
theorem OwnL.blk {α : Type} {k : Nat} {R : Rel α} {base : Nat} {e : TypeId} {w : World} {v : Value} {l : List α} (h : OwnL k R base e w v l) : ∀ g, v.ownBlock = some g → ∃ cs, w.heap[g]? = some (.cells cs e (0, 0)) := fun g hg => by
  obtain ⟨F, h1, _⟩ := h
  rcases h1.2 with ⟨rfl, _⟩ | ⟨g', cap, cur, rfl, _, hh, _⟩
  · cases hg
  · have e : g' = g := by simpa [Value.ownBlock] using hg
    rw [← e]
    exact ⟨_, hh⟩
/-- Rows of different types lie apart. -/
theorem apart_ty {α β : Type} {k k' : Nat} {R : Rel α} {S : Rel β} {base base' : Nat} {e e' : TypeId} {w : World} {v v' : Value} {l : List α} {l' : List β} (h : OwnL k R base e w v l) (h' : OwnL k' S base' e' w v' l') (hne : e ≠ e') : ∀ g, v.ownBlock = some g → some g ≠ v'.ownBlock := fun g hg e => by
  obtain ⟨cs, h1⟩ := h.blk g hg
  obtain ⟨cs', h2⟩ := h'.blk g e.symm
  rw [h1] at h2
  cases h2
  exact hne rfl
theorem OwnL.turn {α : Type} {k : Nat} {R S : Rel α} {base : Nat} {e : TypeId} {w : World} {v : Value} {l : List α} (h : OwnL k R base e w v l) (hRS : ∀ f x, R w f x → S w f x) : OwnL k S base e w v l := let ⟨F, h1, h2⟩ := h; ⟨F, h1, fun i hi => hRS _ _ (h2 i hi)⟩
/-- The rows in a row stay while a row of another type is written. -/
theorem inn_kept {β : Type} {k' : Nat} {S : Rel β} {base' : Nat} {e' : TypeId} {w w' : World} {v' : Value} {l' : List β} (h' : OwnL k' S base' e' w v' l') (hg : w.grownBy w' v'.ownBlock) (hne : 9 ≠ e') {f : Nat → Value} {l : List ByteArray} (h : innR w f l) : innR w' f l :=
  ⟨own_keptL h.1 hg (apart_ty h.1 h' hne), h.2⟩
def rowR : Rel (List ByteArray) := fun w f l => LsAt 1 16 strR w (f 0) l
theorem OwnW.ls {base : Nat} {w : World} {v : Value} {l : List (List ByteArray)} (h : OwnW base w v l) (hl : l.length ≤ 1000000) : LsAt 1 24 rowR w v l :=
  LsAt.turn (R := innR) (OwnL.ls h (by decide) (by omega)) fun f x hx => OwnL.ls hx.1 (by decide) (by have := hx.2; omega)
theorem int_ls {base : Nat} {w : World} {a : Option Addr} {n c : Nat} {l : List Nat} (h : OwnI base w (.slice a n c) l) (hl : l.length ≤ 1000000) (i : Nat) (hi : i < l.length) : ∃ (g o : Nat), a = some ⟨g, o, none⟩ ∧ g < w.heap.size ∧ ∀ y, Up w y → y.cell? ⟨g, o + i, none⟩ = some (.int .i64 (l[i] : Nat)) := by
  obtain ⟨F, h1, h2⟩ := h
  have hs : SlAt w (.slice a n c) l.length 1 F := SlAt.of_own h1 (by omega) fun i j hi hj => flat_get F _ _ _ _ hi hj
  obtain ⟨⟨a2, c2, e2, h0, hx⟩, _⟩ := hs
  cases e2
  cases a with
  | none => have := h0 rfl; omega
  | some x =>
    obtain ⟨g, o, sp⟩ := x
    obtain ⟨g1, g2, g3⟩ := hx _ rfl (by omega)
    obtain rfl : sp = none := g1
    refine ⟨g, o, rfl, g2, fun y hy => ?_⟩
    have := g3 i 0 hi (by decide)
    rw [Nat.mul_one, Nat.add_zero, h2 i hi] at this
    exact (hy.cell _ _ g2).trans this
theorem levP_nm {l : List Df} {i : Nat} (hi : i < l.length) (h : i < (levP l).length) : (levP l)[i].1 = l[i].nm := by
  have := levP_names l
  have h1 : ((levP l).map (·.1))[i]? = (l.map (·.nm))[i]? := by rw [this]
  rw [List.getElem?_map, List.getElem?_map, List.getElem?_eq_getElem h, List.getElem?_eq_getElem hi] at h1
  simpa using h1
theorem levP_lt {l : List Df} {x : ByteArray × Nat} (hx : x ∈ levP l) : x.2 < l.length := by
  have h1 := mxA_mem (levP l) 0 x hx
  have h2 := mxA_len l
  have e : mxA (levP l) = (levP l).foldl mxS 0 := rfl
  omega

theorem ret_max (q xl : Nat) : Value.int .i64 (if (q : Int) < (xl : Int) + 1 then (xl : Int) + 1 else (q : Int)) = .int .i64 ((max q (xl + 1) : Nat) : Int) := by
  congr 1
  split <;> omega
theorem rowP_big (l : List Df) (n : Nat) (h : mxA (levP l) ≤ n) : rowP (levP l) n = [] := by
  unfold rowP
  rw [List.filter_eq_nil_iff.2 fun x hx => ?_]; rfl
  have := mxA_mem (levP l) 0 x hx
  unfold lvB
  have e : mxA (levP l) = (levP l).foldl mxS 0 := rfl
  simp only [decide_eq_true_eq]
  omega
theorem inn_one {w : World} : ∀ (f : Nat → Value) x, innR w f x → ∀ j, j < 1 → (f j).oneCell' = true := fun f x h j hj => by
  obtain rfl : j = 0 := by omega
  obtain ⟨a, c, e⟩ := h.1.shape
  rw [e]; rfl

end Go.Proofs.YtpccaifhcmcegaaGreat
end

section
namespace Go.Proofs.YtpccaifhcmcegaaGreat
set_option linter.unusedSimpArgs false
open Go.ChangeShapes Go.WideShapes Go.ChangeAt Go.RowKit
set_option linter.unusedVariables false
set_option maxRecDepth 100000

theorem by_trans {x y z : World} {row : Option Nat} (h : x.grownBy y row) (k : y.grownBy z row) : x.grownBy z row :=
  ⟨k.os.trans h.os, k.tape.trans h.tape, k.output.trans h.output, Nat.le_trans h.size k.size, fun i hi hne => (k.block i (Nat.lt_of_lt_of_le hi h.size) hne).trans (h.block i hi hne)⟩
theorem by_up {x y z : World} {row : Option Nat} (h : x.grownBy y row) (k : Up y z) : x.grownBy z row :=
  ⟨(Below.os k).trans h.os, (Below.tape k).trans h.tape, (Below.output k).trans h.output, Nat.le_trans h.size (Below.size k), fun i hi hne => (Below.block k i (Nat.lt_of_lt_of_le hi h.size)).trans (h.block i hi hne)⟩
theorem by_refl (x : World) (row : Option Nat) : x.grownBy x row := ⟨rfl, rfl, rfl, Nat.le_refl _, fun _ _ _ => rfl⟩
theorem set_by (w : World) (g o : Nat) (u : Value) : w.grownBy (w.setCell ⟨g, o, none⟩ u) (some g) := ⟨rfl, rfl, rfl, by simp [World.setCell], fun k hk hne => Below.heap_setCell _ _ _ _ (fun e => hne (congrArg some e))⟩
theorem LsAt.conv {α β : Type} {k B : Nat} {R : Rel α} {S : Rel β} {w : World} {v : Value} {l : List α} {m : List β} (h : LsAt k B R w v l) (hl : m.length = l.length) (hRS : ∀ f i (h1 : i < l.length) (h2 : i < m.length), R w f l[i] → S w f m[i]) : LsAt k B S w v m := by
  obtain ⟨h1, h2, F, h3, h4⟩ := h
  refine ⟨by rw [hl]; exact h1, by rw [hl]; exact h2, F, by rw [hl]; exact h3, fun i hi => hRS _ _ (by omega) hi (h4 i (by omega))⟩
/-! ### Rows whose elements are one cell -/
theorem one_row {α : Type} {R0 : (Nat → Value) → α → Prop} {enc : α → Value} (hR : ∀ f x, R0 f x → f 0 = enc x) {base : Nat} {e : TypeId} {w : World} {v : Value} {l : List α} (h : OwnR 1 R0 base e w v l) : w.ownsRow base e 1 v l.length (l.map enc) := by
  obtain ⟨F, h1, h2⟩ := h
  have e1 : flat F l.length 1 = l.map enc := by
    rw [flat_one]
    apply List.ext_getElem?
    intro i
    rw [List.getElem?_map, List.getElem?_map]
    by_cases hi : i < l.length
    · rw [List.getElem?_range hi, List.getElem?_eq_getElem hi]
      exact congrArg some (hR _ _ (h2 i hi))
    · rw [List.getElem?_eq_none (by simpa using hi), List.getElem?_eq_none (by simpa using hi)]; rfl
  rw [← e1]; exact h1
theorem row_one {α : Type} {R0 : (Nat → Value) → α → Prop} {enc : α → Value} {base : Nat} {e : TypeId} {w : World} {v : Value} {l : List α} (hR : ∀ f x, x ∈ l → f 0 = enc x → R0 f x) (h : w.ownsRow base e 1 v l.length (l.map enc)) : OwnR 1 R0 base e w v l := by
  have hF : ∀ i (hi : i < l.length), (fun (i _ : Nat) => (l.map enc).getD i undef) i 0 = enc l[i] := fun i hi => by
    show (l.map enc).getD i undef = _
    rw [List.getD_eq_getElem?_getD, List.getElem?_map, List.getElem?_eq_getElem hi]; rfl
  refine ⟨fun i _ => (l.map enc).getD i undef, ?_, fun i hi => hR _ _ (List.getElem_mem hi) (hF i hi)⟩
  have e1 : flat (fun (i _ : Nat) => (l.map enc).getD i undef) l.length 1 = l.map enc := by
    rw [flat_one]
    apply List.ext_getElem?
    intro i
    rw [List.getElem?_map, List.getElem?_map]
    by_cases hi : i < l.length
    · rw [List.getElem?_range hi, List.getElem?_eq_getElem hi]
      exact congrArg some (hF i hi)
    · rw [List.getElem?_eq_none (by simpa using hi), List.getElem?_eq_none (by simpa using hi)]; rfl
  rw [e1]; exact h
theorem own_box {w : World} {base n g c : Nat} {e : TypeId} {xs : List Value} (h : w.ownsRow base e 1 (.slice (some ⟨g, 0, none⟩) n c) n xs) : ∃ cur, BoxC w g e cur ∧ base ≤ g ∧ ∀ i, i < n → i < cur.size ∧ cur.getD i undef = xs.getD i undef := by
  rcases h.2 with ⟨hv, _⟩ | ⟨g', cap, cur, hv, hb, hg, hnc, hcm, hcs, ht⟩
  · cases hv
  · cases hv
    refine ⟨cur, hg, hb, fun i hi => ⟨by omega, ?_⟩⟩
    rw [← ht, List.getD_eq_getElem?_getD, List.getElem?_take_of_lt (by omega), Array.getElem?_toList, Array.getD_eq_getD_getElem?]
/-! ### A row of numbers -/
def encI (n : Nat) : Value := .int .i64 n
theorem OwnI.row {base : Nat} {w : World} {v : Value} {l : List Nat} (h : OwnI base w v l) : w.ownsRow base 3 1 v l.length (l.map encI) := one_row (fun _ _ h => h) h
theorem OwnI.of {base : Nat} {w : World} {v : Value} {l : List Nat} (h : w.ownsRow base 3 1 v l.length (l.map encI)) : OwnI base w v l := row_one (enc := encI) (fun _ _ _ h => h) h
theorem OwnI.cell {base : Nat} {w : World} {g n c : Nat} {l : List Nat} (h : OwnI base w (.slice (some ⟨g, 0, none⟩) n c) l) (hn : l.length = n) {i x : Nat} (hx : l[i]? = some x) : w.cell? ⟨g, i, none⟩ = some (.int .i64 x) := by
  have h1 := OwnI.row h
  rw [hn] at h1
  obtain ⟨cur, hb, -, hc⟩ := own_box h1
  have hi : i < n := by rw [← hn]; exact (List.getElem?_eq_some_iff.1 hx).1
  obtain ⟨h2, h3⟩ := hc i hi
  refine hb.at ?_ h2
  rw [h3, List.getD_eq_getElem?_getD, List.getElem?_map, hx]; rfl
theorem OwnI.box {base : Nat} {w : World} {g n c : Nat} {l : List Nat} (h : OwnI base w (.slice (some ⟨g, 0, none⟩) n c) l) (hn : l.length = n) : ∃ cur, BoxC w g 3 cur := by
  have h1 := OwnI.row h
  rw [hn] at h1
  obtain ⟨cur, hb, _⟩ := own_box h1
  exact ⟨cur, hb⟩
theorem OwnI.set {base : Nat} {w : World} {g n c : Nat} {l : List Nat} (h : OwnI base w (.slice (some ⟨g, 0, none⟩) n c) l) (hn : l.length = n) {i : Nat} (hi : i < n) (x : Nat) : OwnI base (w.setCell ⟨g, i, none⟩ (.int .i64 x)) (.slice (some ⟨g, 0, none⟩) n c) (l.set i x) := by
  have h1 := OwnI.row h
  rw [hn] at h1
  have h2 := own_set h1 i (by rw [List.length_map]; omega) (encI x)
  refine OwnI.of ?_
  rw [List.length_set, hn, List.map_set]
  exact h2
theorem OwnI.made {w : World} {base n : Nat} {v : Value} (h : w.ownsRow base 3 1 v n (madeCells (Value.int .i64 0).cells (n * 1)).toList) : OwnI base w v (List.replicate n 0) := by
  refine OwnI.of ?_
  rw [List.length_replicate, List.map_replicate]
  have e : (madeCells (Value.int .i64 0).cells (n * 1)).toList = List.replicate n (encI 0) := by
    rw [Nat.mul_one]; exact toList_madeCells_one _ _
  rw [e] at h; exact h
/-! ### A row of slice values -/
def valQ (f : Nat → Value) (x : Value) : Prop := f 0 = x ∧ x.oneCell' = true
theorem valQ_one : ∀ (f : Nat → Value) x, valQ f x → ∀ j, j < 1 → (f j).oneCell' = true := fun f x h j hj => by
  obtain rfl : j = 0 := by omega
  rw [h.1]; exact h.2
abbrev OwnV (base : Nat) (w : World) (v : Value) (l : List Value) : Prop := OwnR 1 valQ base 22 w v l
theorem OwnV.row {base : Nat} {w : World} {v : Value} {l : List Value} (h : OwnV base w v l) : w.ownsRow base 22 1 v l.length l := by
  have := one_row (enc := id) (fun _ _ h => h.1) h
  rwa [List.map_id] at this
theorem OwnV.ones {base : Nat} {w : World} {v : Value} {l : List Value} (h : OwnV base w v l) : ∀ x ∈ l, x.oneCell' = true := fun x hx => by
  obtain ⟨F, _, h2⟩ := h
  obtain ⟨i, hi, rfl⟩ := List.mem_iff_getElem.1 hx
  exact (h2 i hi).2
theorem OwnV.of {base : Nat} {w : World} {v : Value} {l : List Value} (h1 : ∀ x ∈ l, x.oneCell' = true) (h : w.ownsRow base 22 1 v l.length l) : OwnV base w v l :=
  row_one (enc := id) (fun _ _ hx h => ⟨h, h1 _ hx⟩) (by rw [List.map_id]; exact h)
theorem OwnV.cell {base : Nat} {w : World} {g n c : Nat} {l : List Value} (h : OwnV base w (.slice (some ⟨g, 0, none⟩) n c) l) (hn : l.length = n) {i : Nat} {x : Value} (hx : l[i]? = some x) : w.cell? ⟨g, i, none⟩ = some x := by
  have h1 := OwnV.row h
  rw [hn] at h1
  obtain ⟨cur, hb, -, hc⟩ := own_box h1
  have hi : i < n := by rw [← hn]; exact (List.getElem?_eq_some_iff.1 hx).1
  obtain ⟨h2, h3⟩ := hc i hi
  refine hb.at ?_ h2
  rw [h3, List.getD_eq_getElem?_getD, hx]; rfl
theorem OwnV.box {base : Nat} {w : World} {g n c : Nat} {l : List Value} (h : OwnV base w (.slice (some ⟨g, 0, none⟩) n c) l) (hn : l.length = n) : ∃ cur, BoxC w g 22 cur ∧ base ≤ g := by
  have h1 := OwnV.row h
  rw [hn] at h1
  obtain ⟨cur, hb, hbs, _⟩ := own_box h1
  exact ⟨cur, hb, hbs⟩
theorem OwnV.ptr {base : Nat} {w : World} {va : Option Addr} {n c : Nat} {l : List Value} (h : OwnV base w (.slice va n c) l) (hn : l.length = n) (hp : 0 < n) : ∃ g, va = some ⟨g, 0, none⟩ := by
  rcases (OwnV.row h).2 with ⟨hv, h0⟩ | ⟨g', cap, cur, hv, _⟩
  · omega
  · cases hv; exact ⟨g', rfl⟩
theorem OwnV.set {base : Nat} {w : World} {g n c : Nat} {l : List Value} (h : OwnV base w (.slice (some ⟨g, 0, none⟩) n c) l) (hn : l.length = n) {i : Nat} (hi : i < n) {x : Value} (hx : x.oneCell' = true) : OwnV base (w.setCell ⟨g, i, none⟩ x) (.slice (some ⟨g, 0, none⟩) n c) (l.set i x) := by
  have h1 := OwnV.row h
  rw [hn] at h1
  have h2 := own_set h1 i (by omega) x
  refine OwnV.of (fun y hy => ?_) ?_
  · rcases List.mem_or_eq_of_mem_set hy with hy | rfl
    · exact h.ones y hy
    · exact hx
  · rw [List.length_set, hn]
    exact h2
/-- The rows of a row: each of the call's own, no two in one block. -/
structure RowsA (B : Nat) (w : World) (vs : List Value) (f : Nat → List ByteArray) : Prop where
  own : ∀ j, j < vs.length → OwnS B w (vs.getD j undef) (f j)
  apart : ∀ i j, i < vs.length → j < vs.length → i ≠ j → ∀ g, (vs.getD i undef).ownBlock = some g → (vs.getD j undef).ownBlock ≠ some g
theorem RowsA.nil (B : Nat) (w : World) (f : Nat → List ByteArray) : RowsA B w [] f := ⟨fun j h => absurd h (by simp), fun i j h => absurd h (by simp)⟩
theorem RowsA.up {B : Nat} {w w' : World} {vs : List Value} {f : Nat → List ByteArray} (h : RowsA B w vs f) (u : Up w w') : RowsA B w' vs f := ⟨fun j hj => OwnL.up (fun _ _ _ _ h _ => h) (h.own j hj) u, h.apart⟩
theorem RowsA.kept {B : Nat} {w w' : World} {vs : List Value} {f : Nat → List ByteArray} {row : Option Nat} (h : RowsA B w vs f) (hg : w.grownBy w' row) (hr : ∀ g, row = some g → ∃ cs t, w.heap[g]? = some (.cells cs t (0, 0)) ∧ t ≠ 9) : RowsA B w' vs f :=
  ⟨fun j hj => own_keptL (h.own j hj) hg fun g hg' e => by
    obtain ⟨cs, t, h1, h2⟩ := hr g e.symm
    obtain ⟨cs', h3⟩ := (h.own j hj).blk g hg'
    rw [h1] at h3
    cases h3
    exact h2 rfl, h.apart⟩
theorem RowsA.congr {B : Nat} {w : World} {vs : List Value} {f g : Nat → List ByteArray} (h : RowsA B w vs f) (e : ∀ j, j < vs.length → f j = g j) : RowsA B w vs g := ⟨fun j hj => by rw [← e j hj]; exact h.own j hj, h.apart⟩
theorem getD_snoc {vs : List Value} {x : Value} {j : Nat} (hj : j < vs.length) : (vs ++ [x]).getD j undef = vs.getD j undef := by
  rw [List.getD_eq_getElem?_getD, List.getD_eq_getElem?_getD, List.getElem?_append_left hj]
theorem getD_snoc' {vs : List Value} {x : Value} : (vs ++ [x]).getD vs.length undef = x := by
  rw [List.getD_eq_getElem?_getD, List.getElem?_append_right (Nat.le_refl _)]; simp
theorem RowsA.snoc {B : Nat} {w : World} {vs : List Value} {f : Nat → List ByteArray} (h : RowsA B w vs f) (hf : f vs.length = []) : RowsA B w (vs ++ [.slice none 0 0]) f := by
  refine ⟨fun j hj => ?_, fun i j hi hj hne g => ?_⟩
  · rw [List.length_append, List.length_singleton] at hj
    by_cases e : j = vs.length
    · subst e
      rw [getD_snoc', hf]; exact OwnL.nil
    · rw [getD_snoc (by omega)]; exact h.own j (by omega)
  · rw [List.length_append, List.length_singleton] at hi hj
    by_cases e : i = vs.length
    · subst e
      rw [getD_snoc']
      intro h'; cases h'
    · by_cases e' : j = vs.length
      · subst e'
        rw [getD_snoc']
        intro _ h'; cases h'
      · rw [getD_snoc (by omega), getD_snoc (by omega)]
        exact h.apart i j (by omega) (by omega) hne g
theorem getD_set {vs : List Value} {x : Value} {k j : Nat} (hk : k < vs.length) : (vs.set k x).getD j undef = if j = k then x else vs.getD j undef := by
  rw [List.getD_eq_getElem?_getD, List.getD_eq_getElem?_getD, List.getElem?_set]
  by_cases e : j = k
  · subst e
    rw [if_pos rfl, if_pos hk, if_pos rfl]; rfl
  · rw [if_neg (fun h => e h.symm), if_neg e]
/-- One row grown. -/
theorem RowsA.app {B : Nat} {w w' : World} {vs : List Value} {f f' : Nat → List ByteArray} {k : Nat} {v' : Value} (h : RowsA B w vs f) (hk : k < vs.length) (hg : w.grownBy w' (vs.getD k undef).ownBlock) (ho : OwnS B w' v' (f' k)) (hf : ∀ j, j < vs.length → j ≠ k → f' j = f j)
    (hb : v'.ownBlock = (vs.getD k undef).ownBlock ∨ v'.ownBlock = some w.heap.size) : RowsA B w' (vs.set k v') f' := by
  refine ⟨fun j hj => ?_, fun i j hi hj hne g => ?_⟩
  · rw [List.length_set] at hj
    rw [getD_set hk]
    by_cases e : j = k
    · subst e; rw [if_pos rfl]; exact ho
    · rw [if_neg e, hf j hj e]
      exact own_keptL (h.own j hj) hg fun g h1 h2 => h.apart j k hj hk e g h1 h2.symm
  · rw [List.length_set] at hi hj
    rw [getD_set hk, getD_set hk]
    by_cases e : i = k
    · subst e
      rw [if_pos rfl, if_neg (fun e => hne e.symm)]
      intro h1 h2
      rcases hb with hb | hb
      · exact h.apart _ j hi hj hne g (hb.symm.trans h1) h2
      · rw [hb] at h1
        have := (h.own j hj).lt0 g h2
        cases h1
        omega
    · rw [if_neg e]
      by_cases e' : j = k
      · subst e'
        rw [if_pos rfl]
        intro h1 h2
        rcases hb with hb | hb
        · exact h.apart i _ hi hj hne g h1 (hb.symm.trans h2)
        · rw [hb] at h2
          have := (h.own i hi).lt0 g h1
          cases h2
          omega
      · rw [if_neg e']
        exact h.apart i j hi hj hne g
/-- What is handed back. -/
theorem rows_ls {base B : Nat} {w : World} {v : Value} {vs : List Value} {f : Nat → List ByteArray} {n : Nat} (h : OwnV base w v vs) (hr : RowsA B w vs f) (hn : vs.length = n) (hl : n ≤ 1000000) (hf : ∀ j, j < n → (f j).length ≤ 1000000) : LsAt 1 24 rowR w v ((List.range n).map f) := by
  subst hn
  refine LsAt.conv (R := fun _ => valQ) (OwnL.ls h (by decide) (by omega)) (by simp) fun g i h1 h2 hq => ?_
  have e : g 0 = vs.getD i undef := by
    rw [hq.1, List.getD_eq_getElem?_getD, List.getElem?_eq_getElem h1]; rfl
  show LsAt 1 16 strR w (g 0) _
  rw [e]
  simp only [List.getElem_map, List.getElem_range]
  exact OwnL.ls (hr.own i h1) (by decide) (by have := hf i h1; omega)
end Go.Proofs.YtpccaifhcmcegaaGreat
end
