/-
  Programs as data: lists of structs in slices, to any depth; how an argument that is a program reads.
-/
import Derived.Test.YtpccaifhcmcegaaGreatHa

import Derived.Deep.Slices
import Derived.Deep.Fields
import Derived.ChangeSame
import Derived.Lib.SmallJoins
import Derived.Test.YtpccaifhcmcegaaGreatRows
namespace Go.Proofs.YtpccaifhcmcegaaGreat
set_option linter.unusedSimpArgs false
open Go.ChangeShapes Go.WideShapes Go.ChangeAt Go.RowKit Go.Joins Go.Deep
set_option linter.unusedVariables false

/-- A slice of structs of k cells and B bytes whose elements read as R says. -/
def LsAt {α : Type} (k B : Nat) (R : World → (Nat → Value) → α → Prop) (w : World) (v : Value) (l : List α) : Prop :=
  (∃ a c, v = .slice a l.length c ∧ l.length ≤ c) ∧ l.length * B ≤ 140737488351232 ∧ ∃ F : Nat → Nat → Value, SlAt w v l.length k F ∧ ∀ i (h : i < l.length), R w (F i) l[i]
abbrev Rel (α : Type) := World → (Nat → Value) → α → Prop
def UpR {α : Type} (R : Rel α) : Prop := ∀ w w' f e, R w f e → Up w w' → R w' f e
theorem LsAt.up {α : Type} {k B : Nat} {R : Rel α} (hR : UpR R) {w w' : World} {v : Value} {l : List α} (h : LsAt k B R w v l) (u : Up w w') : LsAt k B R w' v l :=
  let ⟨h1, hb, F, h2, h3⟩ := h
  ⟨h1, hb, F, h2.up u, fun i hi => hR _ _ _ _ (h3 i hi) u⟩
theorem UpR.ls {α : Type} (k B : Nat) {R : Rel α} (hR : UpR R) : UpR (fun w (f : Nat → Value) l => LsAt k B R w (f 0) l) := fun _ _ _ _ h u => h.up hR u
theorem LsAt.nil {α : Type} (k B : Nat) (R : Rel α) (w : World) : LsAt k B R w (.slice none 0 0) [] := ⟨⟨none, 0, rfl, Nat.le_refl _⟩, by simp, fun _ _ => .bool false, SlAt.nil w k _, fun i hi => absurd hi (by simp)⟩
theorem LsAt.max {α : Type} {k B : Nat} {R : Rel α} {w : World} {v : Value} {l : List α} (h : LsAt k B R w v l) : l.length ≤ 9223372036854775807 := let ⟨_, _, _, h, _⟩ := h; h.max
theorem LsAt.bytes {α : Type} {k B : Nat} {R : Rel α} {w : World} {v : Value} {l : List α} (h : LsAt k B R w v l) : l.length * B ≤ 140737488351232 := h.2.1

/-! ### The data -/
abbrev Mono := ByteArray × Int
abbrev LinT := Int × List Mono
abbrev Ix := LinT × ByteArray × List LinT
abbrev Typ := Int × Int × Int × Int × Int
inductive Ex where
  | mk (op : Int) (nm : ByteArray) (n d : Int) (ty : Typ) (lin : LinT) (ix : List Ix) (args : List Ex)
instance : Inhabited Ex := ⟨.mk 0 ⟨#[]⟩ 0 0 (0, 0, 0, 0, 0) (0, []) [] []⟩
abbrev Ax := ByteArray × LinT
abbrev Par := ByteArray × Typ × List LinT
abbrev Con := LinT × Bool
structure Df where
  nm : ByteArray
  ty : Typ
  dims : List Ax
  red : List Ax
  fold : Int
  body : Ex
instance : Inhabited Df := ⟨⟨⟨#[]⟩, (0, 0, 0, 0, 0), [], [], 0, default⟩⟩
structure Pg where
  sizes : List ByteArray
  cons : List Con
  pars : List Par
  defs : List Df
  outs : List ByteArray

/-! ### In memory -/
def strR : Rel ByteArray := fun _ f s => f 0 = .string s ∧ s.size ≤ maxLen
def monR : Rel Mono := fun _ f m => (f 0 = .string m.1 ∧ m.1.size ≤ maxLen) ∧ f 1 = .int .i64 m.2
def linR : Rel LinT := fun w f x => f 0 = .int .i64 x.1 ∧ LsAt 2 24 monR w (f 1) x.2
def ixR : Rel Ix := fun w f x => linR w f x.1 ∧ (f 2 = .string x.2.1 ∧ x.2.1.size ≤ maxLen) ∧ LsAt 2 32 linR w (f 3) x.2.2
def typR : Rel Typ := fun _ f t => f 0 = .int .i64 t.1 ∧ f 1 = .int .i64 t.2.1 ∧ f 2 = .int .i64 t.2.2.1 ∧ f 3 = .int .i64 t.2.2.2.1 ∧ f 4 = .int .i64 t.2.2.2.2
/-- An expression of depth at most n. -/
def exR : Nat → Rel Ex
  | 0 => fun _ _ _ => False
  | n + 1 => fun w f e => match e with
    | .mk op nm a d ty lin ix args => f 0 = .int .i64 op ∧ (f 1 = .string nm ∧ nm.size ≤ maxLen) ∧ f 2 = .int .i64 a ∧ f 3 = .int .i64 d ∧ typR w (fun j => f (4 + j)) ty ∧ linR w (fun j => f (9 + j)) lin ∧ LsAt 4 72 ixR w (f 11) ix ∧ LsAt 13 160 (exR n) w (f 12) args
def axR : Rel Ax := fun w f x => (f 0 = .string x.1 ∧ x.1.size ≤ maxLen) ∧ linR w (fun j => f (1 + j)) x.2
def parR : Rel Par := fun w f x => (f 0 = .string x.1 ∧ x.1.size ≤ maxLen) ∧ typR w (fun j => f (1 + j)) x.2.1 ∧ LsAt 2 32 linR w (f 6) x.2.2
def conR : Rel Con := fun w f c => linR w f c.1 ∧ f 2 = .bool c.2
def defR (n : Nat) : Rel Df := fun w f d => (f 0 = .string d.nm ∧ d.nm.size ≤ maxLen) ∧ typR w (fun j => f (1 + j)) d.ty ∧ LsAt 3 48 axR w (f 6) d.dims ∧ LsAt 3 48 axR w (f 7) d.red ∧ f 8 = .int .i64 d.fold ∧ exR n w (fun j => f (9 + j)) d.body
def progR (n : Nat) : Rel Pg := fun w f p => LsAt 1 16 strR w (f 0) p.sizes ∧ LsAt 3 40 conR w (f 1) p.cons ∧ LsAt 7 80 parR w (f 2) p.pars ∧ LsAt 22 272 (defR n) w (f 3) p.defs ∧ LsAt 1 16 strR w (f 4) p.outs

theorem strR_up : UpR strR := fun _ _ _ _ h _ => h
theorem monR_up : UpR monR := fun _ _ _ _ h _ => h
theorem typR_up : UpR typR := fun _ _ _ _ h _ => h
theorem linR_up : UpR linR := fun _ _ _ _ h u => ⟨h.1, h.2.up monR_up u⟩
theorem ixR_up : UpR ixR := fun _ _ _ _ h u => ⟨linR_up _ _ _ _ h.1 u, h.2.1, h.2.2.up linR_up u⟩
theorem exR_up : ∀ n, UpR (exR n)
  | 0 => fun _ _ _ _ h _ => h
  | n + 1 => fun w w' f e h u => by
    obtain ⟨op, nm, a, d, ty, lin, ix, args⟩ := e
    obtain ⟨h1, h2, h3, h4, h5, h6, h7, h8⟩ := h
    exact ⟨h1, h2, h3, h4, h5, linR_up _ _ _ _ h6 u, h7.up ixR_up u, h8.up (exR_up n) u⟩
theorem axR_up : UpR axR := fun _ _ _ _ h u => ⟨h.1, linR_up _ _ _ _ h.2 u⟩
theorem parR_up : UpR parR := fun _ _ _ _ h u => ⟨h.1, h.2.1, h.2.2.up linR_up u⟩
theorem conR_up : UpR conR := fun _ _ _ _ h u => ⟨linR_up _ _ _ _ h.1 u, h.2⟩
theorem defR_up (n : Nat) : UpR (defR n) := fun _ _ _ _ h u => ⟨h.1, h.2.1, h.2.2.1.up axR_up u, h.2.2.2.1.up axR_up u, h.2.2.2.2.1, exR_up n _ _ _ _ h.2.2.2.2.2 u⟩
theorem progR_up (n : Nat) : UpR (progR n) := fun _ _ _ _ h u => ⟨h.1.up strR_up u, h.2.1.up conR_up u, h.2.2.1.up parR_up u, h.2.2.2.1.up (defR_up n) u, h.2.2.2.2.up strR_up u⟩

/-! ### Reading -/
section
variable {H : Type} {enc : TypeId × Value → H} {w : World} {base : Nat} {spare : Nat → Bool} {held : Bool}

/-- A datum within the form's own reach. -/
def Wt (t : TypeId) (d : DataW H) : Prop := ∀ n ∈ d.weights Tryz.prog t, n ≤ reachBytes
theorem wt_slice {T E : TypeId} (hT : Tryz.prog.underlying T = some (.slice E)) {es sp : List (DataW H)} (h : Wt T (.slice es sp)) : (es.length + sp.length) * Tryz.prog.bytesOf E ≤ 140737488351232 ∧ ∀ d ∈ es, Wt E d := by
  unfold Wt at h
  rw [DataW.weights, hT] at h
  refine ⟨h _ List.mem_cons_self, fun d hd n hn => h n (List.mem_cons_of_mem _ (List.mem_append_left _ ?_))⟩
  clear h
  induction es with
  | nil => cases hd
  | cons x r ih =>
    rw [DataW.weightsAll, List.mem_append]
    rcases List.mem_cons.1 hd with rfl | hd
    · exact .inl hn
    · exact .inr (ih hd)
theorem wt_each : ∀ (ts : List TypeId) (ps : List (DataW H)), (∀ n ∈ DataW.weightsEach Tryz.prog ts ps, n ≤ reachBytes) → ∀ (j : Nat) (t : TypeId) (d : DataW H), ts[j]? = some t → ps[j]? = some d → Wt t d
  | [], _, _, j, t, d, ht, _ => by simp at ht
  | _ :: _, [], _, j, t, d, _, hd => by simp at hd
  | t0 :: ts, d0 :: ps, h, j, t, d, ht, hd => by
    rw [DataW.weightsEach] at h
    cases j with
    | zero =>
      simp only [List.getElem?_cons_zero, Option.some.injEq] at ht hd
      subst ht hd
      exact fun n hn => h n (List.mem_append_left _ hn)
    | succ j => exact wt_each ts ps (fun n hn => h n (List.mem_append_right _ hn)) j t d (by simpa using ht) (by simpa using hd)
theorem wt_fld {T : TypeId} {fs : Array Field} (hT : Tryz.prog.underlying T = some (.struct fs)) {xs : List (DataW H × List MemPlace)} (h : Wt T (.agg (xs.map (·.1)))) {j : Nat} {f : Field} (hf : fs[j]? = some f) (hj : j < xs.length) : Wt f.type (xs[j]'hj).1 := by
  unfold Wt at h
  rw [DataW.weights, hT] at h
  exact wt_each _ _ h j _ _ (by rw [List.getElem?_map, Array.getElem?_toList, hf]; rfl) (by rw [List.getElem?_map, List.getElem?_eq_getElem hj]; rfl)

def vals (cs : List Value) (j : Nat) : Value := cs.getD j undef
set_option maxRecDepth 100000 in
theorem trod_Ls {α : Type} [Inhabited α] {T E : TypeId} {k B : Nat} (hT : Tryz.prog.underlying T = some (.slice E)) (hk : Tryz.prog.cellsOf E = k) (hk0 : 0 < k) (hB : Tryz.prog.bytesOf E = B) (R : Rel α) {fuel : Nat} {cs : List Value} {x : DataW H × List MemPlace}
    (hf : DataW.trod enc Tryz.prog w base spare held fuel T cs = some x)
    (hw : Wt T x.1) (hel : ∀ n cs' y, SizeOf.sizeOf y.1 < SizeOf.sizeOf x.1 → Wt E y.1 → DataW.trod enc Tryz.prog w base spare held n E cs' = some y → ∃ e, R w (vals cs') e) : ∃ v l, cs = [v] ∧ LsAt k B R w v l := by
  rcases open_slice hT hf with ⟨hcs, _⟩ | ⟨a, len, cap, m, n, D, Pl, hcs, hb, hl, hm, hmm, hx, hi⟩
  · exact ⟨_, [], hcs, LsAt.nil k B R w⟩
  · rw [hk] at hi
    have hlm : len ≤ m := by rw [hmm]; split <;> omega
    have hsz : ∀ i, i < len → SizeOf.sizeOf (D i) < SizeOf.sizeOf x.1 := fun i hi => by
      rw [hx]
      have hmem : D i ∈ (List.range len).map D := List.mem_map.2 ⟨i, List.mem_range.2 hi, rfl⟩
      have := List.sizeOf_lt_of_mem hmem
      simp only [DataW.slice.sizeOf_spec]
      omega
    obtain ⟨hby, hwe⟩ := wt_slice hT (by rw [hx] at hw; exact hw)
    rw [hB, List.length_map, List.length_range, List.length_map, List.length_range] at hby
    have hby2 : len * B ≤ 140737488351232 := Nat.le_trans (Nat.mul_le_mul_right B (Nat.le_add_right _ _)) hby
    have key : ∀ i, i < len → ∃ (cs' : List Value) (e : α), (∀ j, j < k → w.cell? (a.add (i * k + j)) = some (vals cs' j)) ∧ R w (vals cs') e := by
      intro i hil
      obtain ⟨cs', hc, ht⟩ := hi i (by omega)
      obtain ⟨_, hcl, hat⟩ := World.cells?_some hc
      obtain ⟨e, he⟩ := hel _ _ _ (hsz i hil) (hwe _ (List.mem_map.2 ⟨i, List.mem_range.2 hil, rfl⟩)) ht
      refine ⟨cs', e, fun j hj => ?_, he⟩
      have h0 := hat j hj
      rw [Go.Deep.add_add] at h0
      have hv : cs'[j]? = some (cs'[j]'(by omega)) := List.getElem?_eq_getElem (by omega)
      rw [h0, hv]
      unfold vals
      rw [List.getD_eq_getElem?_getD, hv]; rfl
    by_cases h0 : len = 0
    · subst h0
      exact ⟨_, [], hcs, ⟨_, _, rfl, Nat.zero_le _⟩, by simp, fun _ _ => undef, ⟨⟨some a, cap, rfl, (fun e => nomatch e), fun x hx hl => absurd hl (Nat.lt_irrefl 0)⟩, Nat.zero_le _⟩, fun i hi => absurd hi (Nat.not_lt_zero _)⟩
    · obtain ⟨b, o, sp⟩ := a
      have hs : sp = none := by
        obtain ⟨cs', e, hn, _⟩ := key 0 (by omega)
        have := World.cell?_spot (hn 0 hk0)
        simpa [Addr.add] using this
      subst hs
      have hlt : b < w.heap.size := by
        obtain ⟨cs', e, hn, _⟩ := key 0 (by omega)
        have := hn 0 hk0
        rw [add_lit_ne] at this
        exact World.block_lt_of_cell? _ _ this
      have key2 : ∀ i, ∃ z : List Value × α, i < len → (∀ j, j < k → w.cell? ⟨b, o + (i * k + j), none⟩ = some (vals z.1 j)) ∧ R w (vals z.1) z.2 := fun i => by
        by_cases hi : i < len
        · obtain ⟨cs', e, h1, h2⟩ := key i hi
          exact ⟨(cs', e), fun _ => ⟨fun j hj => by have := h1 j hj; rw [add_lit_ne] at this; exact this, h2⟩⟩
        · exact ⟨([], default), fun h => absurd h hi⟩
      obtain ⟨z, hz⟩ := Classical.axiomOfChoice key2
      have hlen : ((List.range len).map fun i => (z i).2).length = len := by simp
      refine ⟨_, (List.range len).map fun i => (z i).2, hcs, ⟨_, _, by rw [hlen], by rw [hlen]; exact hl⟩, by rw [hlen]; exact hby2, fun i => vals (z i).1, ?_, fun i hi => ?_⟩
      · rw [hlen]
        refine ⟨⟨some ⟨b, o, none⟩, cap, rfl, (fun e => nomatch e), fun x hx _ => ?_⟩, by have : maxLen = 9223372036854775807 := rfl; omega⟩
        cases hx
        refine ⟨rfl, hlt, fun i j hi hj => ?_⟩
        have := (hz i hi).1 j hj
        rw [show o + i * k + j = o + (i * k + j) by omega]
        exact this
      · rw [hlen] at hi
        have e1 : ((List.range len).map fun i => (z i).2)[i] = (z i).2 := by simp
        rw [e1]
        exact (hz i hi).2

set_option maxRecDepth 100000 in
theorem trod_str {fuel : Nat} {cs : List Value} {x : DataW H × List MemPlace} (hf : DataW.trod enc Tryz.prog w base spare held fuel 9 cs = some x) : ∃ s, cs = [.string s] ∧ s.size ≤ maxLen :=
  let ⟨s, h, _, hw⟩ := DataW.trod_string Tryz.underlying9 hf
  ⟨s, h, hw⟩
theorem trod_strR {fuel : Nat} {cs : List Value} {x : DataW H × List MemPlace} (hf : DataW.trod enc Tryz.prog w base spare held fuel 9 cs = some x) : ∃ s, strR w (vals cs) s := by
  obtain ⟨s, rfl, h⟩ := trod_str hf
  exact ⟨s, rfl, h⟩
set_option maxRecDepth 100000 in
theorem trod_strs {fuel : Nat} {cs : List Value} {x : DataW H × List MemPlace} (hw : Wt 22 x.1) (hf : DataW.trod enc Tryz.prog w base spare held fuel 22 cs = some x) : ∃ v l, cs = [v] ∧ LsAt 1 16 strR w v l :=
  trod_Ls (k := 1) Tryz.underlying22 (by kernel_rfl) (by decide) (by kernel_rfl) strR hf hw fun _ _ _ _ _ h => trod_strR h

theorem one_of {cs : List Value} {v : Value} {j : Nat} (h : (cs.drop j).take 1 = [v]) : vals cs j = v := by
  unfold vals
  have h2 : (cs.drop j)[0]? = some v := by
    have := congrArg (fun l => l[0]?) h
    simp only [List.getElem?_take, List.getElem?_cons_zero] at this
    simpa using this
  rw [List.getElem?_drop, Nat.add_zero] at h2
  rw [List.getD_eq_getElem?_getD, h2]; rfl
theorem vals_drop (cs : List Value) (k n j : Nat) (hj : j < n) : vals ((cs.drop k).take n) j = vals cs (k + j) := by
  unfold vals
  rw [List.getD_eq_getElem?_getD, List.getD_eq_getElem?_getD, List.getElem?_take, if_pos hj, List.getElem?_drop]
theorem fld {xs : List (DataW H × List MemPlace)} {n j : Nat} (h : xs.length = n) (hj : j < n) : xs[j]? = some (xs[j]'(by omega)) := List.getElem?_eq_getElem (by omega)
theorem fld_sz {xs : List (DataW H × List MemPlace)} {j : Nat} (hj : j < xs.length) : SizeOf.sizeOf (xs[j]'hj).1 < SizeOf.sizeOf (DataW.agg (xs.map (·.1))) := by
  have hmem : (xs[j]'hj).1 ∈ xs.map (·.1) := List.mem_map.2 ⟨_, List.getElem_mem hj, rfl⟩
  have := List.sizeOf_lt_of_mem hmem
  simp only [DataW.agg.sizeOf_spec]
  omega

set_option maxRecDepth 100000 in
theorem trod_mon {fuel : Nat} {cs : List Value} {x : DataW H × List MemPlace} (hw : Wt 112 x.1) (hf : DataW.trod enc Tryz.prog w base spare held fuel 112 cs = some x) : ∃ m, monR w (vals cs) m := by
  obtain ⟨xs, n, _, hx, _, hlen, hg⟩ := DataW.trod_struct Tryz.underlying112 hf
  have hl : xs.length = 2 := hlen
  have hw' : Wt 112 (.agg (xs.map (·.1))) := by rw [hx] at hw; exact hw
  obtain ⟨s, e0, h0⟩ := trod_str ((hg 0 _ rfl).trans (fld hl (by decide)))
  obtain ⟨k, e1, _, _⟩ := DataW.trod_int Tryz.underlying2 ((hg 1 _ rfl).trans (fld hl (by decide)))
  exact ⟨(s, k), ⟨one_of e0, h0⟩, one_of e1⟩
set_option maxRecDepth 100000 in
theorem trod_lin {fuel : Nat} {cs : List Value} {x : DataW H × List MemPlace} (hw : Wt 44 x.1) (hf : DataW.trod enc Tryz.prog w base spare held fuel 44 cs = some x) : ∃ l, linR w (vals cs) l := by
  obtain ⟨xs, n, _, hx, _, hlen, hg⟩ := DataW.trod_struct Tryz.underlying44 hf
  have hl : xs.length = 2 := hlen
  have hw' : Wt 44 (.agg (xs.map (·.1))) := by rw [hx] at hw; exact hw
  obtain ⟨k, e0, _, _⟩ := DataW.trod_int Tryz.underlying2 ((hg 0 _ rfl).trans (fld hl (by decide)))
  obtain ⟨v, l, e1, h1⟩ := trod_Ls (k := 2) Tryz.underlying42 (by kernel_rfl) (by decide) (by kernel_rfl) monR ((hg 1 _ rfl).trans (fld hl (by decide))) (wt_fld Tryz.underlying44 hw' (j := 1) rfl (by omega)) fun _ _ _ _ hy h => trod_mon hy h
  refine ⟨(k, l), one_of e0, ?_⟩
  rw [show vals cs 1 = v from one_of e1]; exact h1
theorem linR_sub {cs : List Value} {k : Nat} {l : LinT} (h : linR w (vals ((cs.drop k).take 2)) l) : linR w (fun j => vals cs (k + j)) l := by
  obtain ⟨h1, h2⟩ := h
  rw [vals_drop _ _ _ _ (by decide)] at h1 h2
  exact ⟨h1, h2⟩
set_option maxRecDepth 100000 in
theorem trod_typ {fuel : Nat} {cs : List Value} {x : DataW H × List MemPlace} (hw : Wt 38 x.1) (hf : DataW.trod enc Tryz.prog w base spare held fuel 38 cs = some x) : ∃ l, typR w (vals cs) l := by
  obtain ⟨xs, n, _, hx, _, hlen, hg⟩ := DataW.trod_struct Tryz.underlying38 hf
  have hl : xs.length = 5 := hlen
  have hw' : Wt 38 (.agg (xs.map (·.1))) := by rw [hx] at hw; exact hw
  obtain ⟨k0, e0, _, _⟩ := DataW.trod_int Tryz.underlying3 ((hg 0 _ rfl).trans (fld hl (by decide)))
  obtain ⟨k1, e1, _, _⟩ := DataW.trod_int Tryz.underlying3 ((hg 1 _ rfl).trans (fld hl (by decide)))
  obtain ⟨k2, e2, _, _⟩ := DataW.trod_int Tryz.underlying3 ((hg 2 _ rfl).trans (fld hl (by decide)))
  obtain ⟨k3, e3, _, _⟩ := DataW.trod_int Tryz.underlying3 ((hg 3 _ rfl).trans (fld hl (by decide)))
  obtain ⟨k4, e4, _, _⟩ := DataW.trod_int Tryz.underlying3 ((hg 4 _ rfl).trans (fld hl (by decide)))
  exact ⟨(k0, k1, k2, k3, k4), one_of e0, one_of e1, one_of e2, one_of e3, one_of e4⟩
theorem typR_sub {cs : List Value} {k : Nat} {l : Typ} (h : typR w (vals ((cs.drop k).take 5)) l) : typR w (fun j => vals cs (k + j)) l := by
  obtain ⟨h0, h1, h2, h3, h4⟩ := h
  rw [vals_drop _ _ _ _ (by decide)] at h0 h1 h2 h3 h4
  exact ⟨h0, h1, h2, h3, h4⟩
set_option maxRecDepth 100000 in
theorem trod_lins {fuel : Nat} {cs : List Value} {x : DataW H × List MemPlace} (hw : Wt 53 x.1) (hf : DataW.trod enc Tryz.prog w base spare held fuel 53 cs = some x) : ∃ v l, cs = [v] ∧ LsAt 2 32 linR w v l :=
  trod_Ls (k := 2) Tryz.underlying53 (by kernel_rfl) (by decide) (by kernel_rfl) linR hf hw fun _ _ _ _ hy h => trod_lin hy h
set_option maxRecDepth 100000 in
theorem trod_ix {fuel : Nat} {cs : List Value} {x : DataW H × List MemPlace} (hw : Wt 81 x.1) (hf : DataW.trod enc Tryz.prog w base spare held fuel 81 cs = some x) : ∃ l, ixR w (vals cs) l := by
  obtain ⟨xs, n, _, hx, _, hlen, hg⟩ := DataW.trod_struct Tryz.underlying81 hf
  have hl : xs.length = 3 := hlen
  have hw' : Wt 81 (.agg (xs.map (·.1))) := by rw [hx] at hw; exact hw
  obtain ⟨l, h0⟩ := trod_lin (wt_fld Tryz.underlying81 hw' (j := 0) rfl (by omega)) ((hg 0 _ rfl).trans (fld hl (by decide)))
  obtain ⟨s, e1, h1⟩ := trod_str ((hg 1 _ rfl).trans (fld hl (by decide)))
  obtain ⟨v, t, e2, h2⟩ := trod_lins (wt_fld Tryz.underlying81 hw' (j := 2) rfl (by omega)) ((hg 2 _ rfl).trans (fld hl (by decide)))
  have h0' := linR_sub (k := 0) h0
  simp only [Nat.zero_add] at h0'
  refine ⟨(l, s, t), h0', ⟨one_of e1, h1⟩, ?_⟩
  rw [show vals cs 3 = v from one_of e2]; exact h2
set_option maxRecDepth 100000 in
theorem trod_ex : ∀ (s : Nat) {fuel : Nat} {cs : List Value} {x : DataW H × List MemPlace} (hs : SizeOf.sizeOf x.1 < s) (hw : Wt 48 x.1) (hf : DataW.trod enc Tryz.prog w base spare held fuel 48 cs = some x), ∃ e, exR s w (vals cs) e
  | 0, _, _, _, hs, _, _ => absurd hs (by omega)
  | s + 1, fuel, cs, x, hs, hw, hf => by
    obtain ⟨xs, n, _, hx, _, hlen, hg⟩ := DataW.trod_struct Tryz.underlying48 hf
    have hl : xs.length = 7 := hlen
    have hw' : Wt 48 (.agg (xs.map (·.1))) := by rw [hx] at hw; exact hw
    obtain ⟨op, e0, _, _⟩ := DataW.trod_int Tryz.underlying3 ((hg 0 _ rfl).trans (fld hl (by decide)))
    obtain ⟨nm, e1, h1⟩ := trod_str ((hg 1 _ rfl).trans (fld hl (by decide)))
    have hv := (hg 2 _ rfl).trans (fld hl (by decide))
    obtain ⟨ys, n2, _, _, _, hylen, hgy⟩ := DataW.trod_struct Tryz.underlying41 hv
    have hyl : ys.length = 2 := hylen
    obtain ⟨a, e2, _, _⟩ := DataW.trod_int Tryz.underlying2 ((hgy 0 _ rfl).trans (fld hyl (by decide)))
    obtain ⟨d, e3, _, _⟩ := DataW.trod_int Tryz.underlying2 ((hgy 1 _ rfl).trans (fld hyl (by decide)))
    obtain ⟨ty, h4⟩ := trod_typ (wt_fld Tryz.underlying48 hw' (j := 3) rfl (by omega)) ((hg 3 _ rfl).trans (fld hl (by decide)))
    obtain ⟨lin, h5⟩ := trod_lin (wt_fld Tryz.underlying48 hw' (j := 4) rfl (by omega)) ((hg 4 _ rfl).trans (fld hl (by decide)))
    obtain ⟨v6, ix, e6, h6⟩ := trod_Ls (k := 4) Tryz.underlying45 (by kernel_rfl) (by decide) (by kernel_rfl) ixR ((hg 5 _ rfl).trans (fld hl (by decide))) (wt_fld Tryz.underlying48 hw' (j := 5) rfl (by omega)) fun _ _ _ _ hy h => trod_ix hy h
    obtain ⟨v7, args, e7, h7⟩ := trod_Ls (k := 13) Tryz.underlying46 (by kernel_rfl) (by decide) (by kernel_rfl) (exR s) ((hg 6 _ rfl).trans (fld hl (by decide))) (wt_fld Tryz.underlying48 hw' (j := 6) rfl (by omega)) fun _ _ y hy hyw h => trod_ex s (by
      have := fld_sz (xs := xs) (j := 6) (by omega)
      rw [hx] at hs
      dsimp only at hs
      omega) hyw h
    have e2' := one_of e2
    have e3' := one_of e3
    rw [vals_drop _ _ _ _ (by decide)] at e2' e3'
    refine ⟨.mk op nm a d ty lin ix args, one_of e0, ⟨one_of e1, h1⟩, e2', e3', typR_sub h4, linR_sub h5, ?_, ?_⟩
    · rw [show vals cs 11 = v6 from one_of e6]; exact h6
    · rw [show vals cs 12 = v7 from one_of e7]; exact h7
set_option maxRecDepth 100000 in
theorem trod_ax {fuel : Nat} {cs : List Value} {x : DataW H × List MemPlace} (hw : Wt 99 x.1) (hf : DataW.trod enc Tryz.prog w base spare held fuel 99 cs = some x) : ∃ l, axR w (vals cs) l := by
  obtain ⟨xs, n, _, hx, _, hlen, hg⟩ := DataW.trod_struct Tryz.underlying99 hf
  have hl : xs.length = 2 := hlen
  have hw' : Wt 99 (.agg (xs.map (·.1))) := by rw [hx] at hw; exact hw
  obtain ⟨s, e0, h0⟩ := trod_str ((hg 0 _ rfl).trans (fld hl (by decide)))
  obtain ⟨l, h1⟩ := trod_lin (wt_fld Tryz.underlying99 hw' (j := 1) rfl (by omega)) ((hg 1 _ rfl).trans (fld hl (by decide)))
  exact ⟨(s, l), ⟨one_of e0, h0⟩, linR_sub h1⟩
set_option maxRecDepth 100000 in
theorem trod_axs {fuel : Nat} {cs : List Value} {x : DataW H × List MemPlace} (hw : Wt 39 x.1) (hf : DataW.trod enc Tryz.prog w base spare held fuel 39 cs = some x) : ∃ v l, cs = [v] ∧ LsAt 3 48 axR w v l :=
  trod_Ls (k := 3) Tryz.underlying39 (by kernel_rfl) (by decide) (by kernel_rfl) axR hf hw fun _ _ _ _ hy h => trod_ax hy h
set_option maxRecDepth 100000 in
theorem trod_par {fuel : Nat} {cs : List Value} {x : DataW H × List MemPlace} (hw : Wt 55 x.1) (hf : DataW.trod enc Tryz.prog w base spare held fuel 55 cs = some x) : ∃ l, parR w (vals cs) l := by
  obtain ⟨xs, n, _, hx, _, hlen, hg⟩ := DataW.trod_struct Tryz.underlying55 hf
  have hl : xs.length = 3 := hlen
  have hw' : Wt 55 (.agg (xs.map (·.1))) := by rw [hx] at hw; exact hw
  obtain ⟨s, e0, h0⟩ := trod_str ((hg 0 _ rfl).trans (fld hl (by decide)))
  obtain ⟨t, h1⟩ := trod_typ (wt_fld Tryz.underlying55 hw' (j := 1) rfl (by omega)) ((hg 1 _ rfl).trans (fld hl (by decide)))
  obtain ⟨v, l, e2, h2⟩ := trod_lins (wt_fld Tryz.underlying55 hw' (j := 2) rfl (by omega)) ((hg 2 _ rfl).trans (fld hl (by decide)))
  refine ⟨(s, t, l), ⟨one_of e0, h0⟩, typR_sub h1, ?_⟩
  rw [show vals cs 6 = v from one_of e2]; exact h2
set_option maxRecDepth 100000 in
theorem trod_con {fuel : Nat} {cs : List Value} {x : DataW H × List MemPlace} (hw : Wt 71 x.1) (hf : DataW.trod enc Tryz.prog w base spare held fuel 71 cs = some x) : ∃ l, conR w (vals cs) l := by
  obtain ⟨xs, n, _, hx, _, hlen, hg⟩ := DataW.trod_struct Tryz.underlying71 hf
  have hl : xs.length = 2 := hlen
  have hw' : Wt 71 (.agg (xs.map (·.1))) := by rw [hx] at hw; exact hw
  obtain ⟨l, h0⟩ := trod_lin (wt_fld Tryz.underlying71 hw' (j := 0) rfl (by omega)) ((hg 0 _ rfl).trans (fld hl (by decide)))
  obtain ⟨b, e1, _⟩ := DataW.trod_bool Tryz.underlying4 ((hg 1 _ rfl).trans (fld hl (by decide)))
  have h0' := linR_sub (k := 0) h0
  simp only [Nat.zero_add] at h0'
  exact ⟨(l, b), h0', one_of e1⟩
theorem exR_congr : ∀ (n : Nat) {f g : Nat → Value} {e : Ex} (h : exR n w f e) (hfg : ∀ j, j < 13 → f j = g j), exR n w g e
  | 0, _, _, _, h, _ => h
  | n + 1, f, g, e, h, hfg => by
    obtain ⟨op, nm, a, d, ty, lin, ix, args⟩ := e
    obtain ⟨h1, h2, h3, h4, ⟨t0, t1, t2, t3, t4⟩, ⟨l0, l1⟩, h7, h8⟩ := h
    dsimp only at t0 t1 t2 t3 t4 l0 l1
    rw [hfg _ (by decide)] at h1 h2 h3 h4 h7 h8 t0 t1 t2 t3 t4 l0 l1
    exact ⟨h1, h2, h3, h4, ⟨t0, t1, t2, t3, t4⟩, ⟨l0, l1⟩, h7, h8⟩
set_option maxRecDepth 100000 in
theorem trod_def (s : Nat) {fuel : Nat} {cs : List Value} {x : DataW H × List MemPlace} (hs : SizeOf.sizeOf x.1 < s) (hw : Wt 50 x.1) (hf : DataW.trod enc Tryz.prog w base spare held fuel 50 cs = some x) : ∃ l, defR s w (vals cs) l := by
  obtain ⟨xs, n, _, hx, _, hlen, hg⟩ := DataW.trod_struct Tryz.underlying50 hf
  have hl : xs.length = 6 := hlen
  have hw' : Wt 50 (.agg (xs.map (·.1))) := by rw [hx] at hw; exact hw
  obtain ⟨nm, e0, h0⟩ := trod_str ((hg 0 _ rfl).trans (fld hl (by decide)))
  obtain ⟨t, h1⟩ := trod_typ (wt_fld Tryz.underlying50 hw' (j := 1) rfl (by omega)) ((hg 1 _ rfl).trans (fld hl (by decide)))
  obtain ⟨v2, l2, e2, h2⟩ := trod_axs (wt_fld Tryz.underlying50 hw' (j := 2) rfl (by omega)) ((hg 2 _ rfl).trans (fld hl (by decide)))
  obtain ⟨v3, l3, e3, h3⟩ := trod_axs (wt_fld Tryz.underlying50 hw' (j := 3) rfl (by omega)) ((hg 3 _ rfl).trans (fld hl (by decide)))
  obtain ⟨fo, e4, _, _⟩ := DataW.trod_int Tryz.underlying3 ((hg 4 _ rfl).trans (fld hl (by decide)))
  obtain ⟨e, h5⟩ := trod_ex s (by
      have := fld_sz (xs := xs) (j := 5) (by omega)
      rw [hx] at hs
      dsimp only at hs
      omega) (wt_fld Tryz.underlying50 hw' (j := 5) rfl (by omega)) ((hg 5 _ rfl).trans (fld hl (by decide)))
  refine ⟨⟨nm, t, l2, l3, fo, e⟩, ⟨one_of e0, h0⟩, typR_sub h1, ?_, ?_, one_of e4, exR_congr s h5 fun j hj => vals_drop _ _ _ _ hj⟩
  · rw [show vals cs 6 = v2 from one_of e2]; exact h2
  · rw [show vals cs 7 = v3 from one_of e3]; exact h3
set_option maxRecDepth 100000 in
theorem trod_prog (s : Nat) {fuel : Nat} {cs : List Value} {x : DataW H × List MemPlace} (hs : SizeOf.sizeOf x.1 < s) (hw : Wt 27 x.1) (hf : DataW.trod enc Tryz.prog w base spare held fuel 27 cs = some x) : ∃ p, progR s w (vals cs) p := by
  obtain ⟨xs, n, _, hx, _, hlen, hg⟩ := DataW.trod_struct Tryz.underlying27 hf
  have hl : xs.length = 5 := hlen
  have hw' : Wt 27 (.agg (xs.map (·.1))) := by rw [hx] at hw; exact hw
  obtain ⟨v0, l0, e0, h0⟩ := trod_strs (wt_fld Tryz.underlying27 hw' (j := 0) rfl (by omega)) ((hg 0 _ rfl).trans (fld hl (by decide)))
  obtain ⟨v1, l1, e1, h1⟩ := trod_Ls (k := 3) Tryz.underlying23 (by kernel_rfl) (by decide) (by kernel_rfl) conR ((hg 1 _ rfl).trans (fld hl (by decide))) (wt_fld Tryz.underlying27 hw' (j := 1) rfl (by omega)) fun _ _ _ _ hy h => trod_con hy h
  obtain ⟨v2, l2, e2, h2⟩ := trod_Ls (k := 7) Tryz.underlying24 (by kernel_rfl) (by decide) (by kernel_rfl) parR ((hg 2 _ rfl).trans (fld hl (by decide))) (wt_fld Tryz.underlying27 hw' (j := 2) rfl (by omega)) fun _ _ _ _ hy h => trod_par hy h
  obtain ⟨v3, l3, e3, h3⟩ := trod_Ls (k := 22) Tryz.underlying25 (by kernel_rfl) (by decide) (by kernel_rfl) (defR s) ((hg 3 _ rfl).trans (fld hl (by decide))) (wt_fld Tryz.underlying27 hw' (j := 3) rfl (by omega)) fun _ _ y hy hyw h => trod_def s (by
      have := fld_sz (xs := xs) (j := 3) (by omega)
      rw [hx] at hs
      dsimp only at hs
      omega) hyw h
  obtain ⟨v4, l4, e4, h4⟩ := trod_strs (wt_fld Tryz.underlying27 hw' (j := 4) rfl (by omega)) ((hg 4 _ rfl).trans (fld hl (by decide)))
  refine ⟨⟨l0, l1, l2, l3, l4⟩, ?_, ?_, ?_, ?_, ?_⟩
  · rw [show vals cs 0 = v0 from one_of e0]; exact h0
  · rw [show vals cs 1 = v1 from one_of e1]; exact h1
  · rw [show vals cs 2 = v2 from one_of e2]; exact h2
  · rw [show vals cs 3 = v3 from one_of e3]; exact h3
  · rw [show vals cs 4 = v4 from one_of e4]; exact h4
end
theorem cellsProg : Tryz.prog.cellsOf 27 = 5 := by kernel_rfl
/-- A program as an argument. -/
def ProgAt (n : Nat) (w : World) (v : Value) (p : Pg) : Prop := ∃ v0 v1 v2 v3 v4, v = .agg #[v0, v1, v2, v3, v4] ∧ progR n w (vals [v0, v1, v2, v3, v4]) p
set_option maxRecDepth 100000 in
theorem open_Prog {H : Type} {enc : TypeId × Value → H} {w : World} {base : Nat} {spare : Nat → Bool} {held : Bool} {r : Reach} {b0 : Nat} {v : Value} {d : DataW H} {p : List MemPlace}
    (hv : Value.okWide Tryz.prog w r b0 27 v) (hw : Wt 27 d) (h : DataW.Trod enc Tryz.prog w base spare held 27 v d p) : ∃ x : Nat × Pg, ProgAt x.1 w v x.2 := by
  obtain ⟨cs, rfl, hsz⟩ := okWide_struct Tryz.underlying27 hv
  obtain ⟨l⟩ := cs
  match l, hsz.trans cellsProg with
  | [c0, c1, c2, c3, c4], _ =>
    obtain ⟨fuel, hf⟩ := h
    obtain ⟨q, hq⟩ := trod_prog (SizeOf.sizeOf d + 1) (Nat.lt_succ_self _) hw hf
    exact ⟨(_, q), _, _, _, _, _, rfl, hq⟩
end Go.Proofs.YtpccaifhcmcegaaGreat

