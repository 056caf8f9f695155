/-
  How an argument that is a linear form, or a list of bindings, reads.
-/
import Derived.Test.YtpclbgaaoednnaaDoorLinEw
import Derived.Test.YtpclbgaaoednnaaDoorLin3
import Derived.Deep.Slices
import Derived.Deep.Fields
import Derived.ChangeSame
import Derived.Lib.SmallJoins
namespace Go.Proofs.YtpclbgaaoednnaaDoor
set_option linter.unusedSimpArgs false
open Go.ChangeShapes Go.WideShapes Go.ChangeAt Go.RowKit Go.Joins Go.Deep
set_option linter.unusedVariables false

def intAt (w : World) (b o : Nat) : Int := match w.cell? ⟨b, o, none⟩ with
  | some (.int _ n) => n
  | _ => 0
def strAt (w : World) (b o : Nat) : ByteArray := match w.cell? ⟨b, o, none⟩ with
  | some (.string s) => s
  | _ => ⟨#[]⟩
def monosOf (w : World) (b o len : Nat) : List Mono := (List.range len).map fun i => (strAt w b (o + i * 2), intAt w b (o + i * 2 + 1))
theorem monosOf_get (w : World) (b o len i : Nat) (hi : i < len) : (monosOf w b o len).getD i m0 = (strAt w b (o + i * 2), intAt w b (o + i * 2 + 1)) := by
  unfold monosOf
  rw [List.getD_eq_getElem?_getD, List.getElem?_map, List.getElem?_range hi]; rfl

theorem in64_wf {n : Int} (h : (Lit.int .i64 n).wf = true) : In64 n := by
  have e1 : IntKind.i64.min = -9223372036854775808 := rfl
  have e2 : IntKind.i64.max = 9223372036854775807 := rfl
  simp [Lit.wf] at h
  unfold In64
  omega

/-- A list of monomials (or of bindings) as an argument. -/
def CapOk (v : Value) : Prop := ∃ a n c, v = .slice a n c ∧ n ≤ c
def MonosArg (w : World) (v : Value) (l : List Mono) : Prop := MonosAt w v l ∧ Rng l ∧ (∀ k, k < l.length → (l.getD k m0).1.size ≤ maxLen) ∧ CapOk v

theorem monos_arg {w : World} {b o len cap : Nat} (hlc : len ≤ cap) (hmax : len ≤ 9223372036854775807) (hlt : b < w.heap.size)
    (key : ∀ i, i < len → ∃ (s : ByteArray) (n : Int), (w.cell? ⟨b, o + i * 2, none⟩ = some (.string s) ∧ w.cell? ⟨b, o + i * 2 + 1, none⟩ = some (.int .i64 n)) ∧ s.size ≤ maxLen ∧ In64 n) :
    MonosArg w (.slice (some ⟨b, o, none⟩) len cap) (monosOf w b o len) := by
  have hlen : (monosOf w b o len).length = len := by simp [monosOf]
  have hk : ∀ i, i < len → w.cell? ⟨b, o + i * 2, none⟩ = some (.string ((monosOf w b o len).getD i m0).1) ∧ w.cell? ⟨b, o + i * 2 + 1, none⟩ = some (.int .i64 ((monosOf w b o len).getD i m0).2) ∧ ((monosOf w b o len).getD i m0).1.size ≤ maxLen ∧ In64 ((monosOf w b o len).getD i m0).2 := fun i hi => by
    obtain ⟨s, n, ⟨h1, h2⟩, h3, h4⟩ := key i hi
    rw [monosOf_get _ _ _ _ _ hi]
    have e1 : strAt w b (o + i * 2) = s := by unfold strAt; rw [h1]
    have e2 : intAt w b (o + i * 2 + 1) = n := by unfold intAt; rw [h2]
    rw [e1, e2]
    exact ⟨h1, h2, h3, h4⟩
  refine ⟨?_, fun k hk' => (hk k (by omega)).2.2.2, fun k hk' => (hk k (by omega)).2.2.1, _, _, _, rfl, hlc⟩
  unfold MonosAt
  rw [hlen]
  refine ⟨⟨some ⟨b, o, none⟩, cap, rfl, (fun e => nomatch e), fun x hx _ => ?_⟩, hmax⟩
  cases hx
  refine ⟨rfl, hlt, fun i j hi hj => ?_⟩
  rcases (by omega : j = 0 ∨ j = 1) with rfl | rfl
  · exact (hk i hi).1
  · exact (hk i hi).2.1

theorem cellsMono : Tryd.prog.cellsOf 31 = 2 := by kernel_rfl

set_option maxRecDepth 100000 in
theorem trod_Monos {H : Type} {enc : TypeId × Value → H} {w : World} {base : Nat} {spare : Nat → Bool} {held : Bool} {fuel : Nat} {cs : List Value} {x : DataW H × List MemPlace}
    (hf : DataW.trod enc Tryd.prog w base spare held fuel 22 cs = some x) : ∃ v l, cs = [v] ∧ MonosArg w v l := by
  rcases open_slice Tryd.underlying22 hf with ⟨hcs, _⟩ | ⟨a, len, cap, m, n, D, Pl, hcs, hb, hl, hm, hmm, hx, hi⟩
  · exact ⟨_, [], hcs, SlAt.nil w 2 _, fun k hk => absurd hk (by simp), fun k hk => absurd hk (by simp), _, _, _, rfl, Nat.le_refl _⟩
  · rw [cellsMono] at hi
    have hlm : len ≤ m := by rw [hmm]; split <;> omega
    have key : ∀ i, i < len → (∃ s : ByteArray, w.cell? (a.add (i * 2)) = some (.string s) ∧ s.size ≤ maxLen) ∧ (∃ n, w.cell? (a.add (i * 2 + 1)) = some (.int .i64 n) ∧ (Lit.int .i64 n).wf = true) := by
      intro i hil
      obtain ⟨cs', hc, ht⟩ := hi i (by omega)
      obtain ⟨ys, n', hn', hy, hlen, hyl, hg⟩ := DataW.trod_struct Tryd.underlying31 ht
      obtain ⟨_, hcl, hat⟩ := World.cells?_some hc
      have hyl2 : ys.length = 2 := hyl
      constructor
      · have hcell := hat 0 (by omega)
        have hv : cs'[0]? = some (cs'[0]'(by omega)) := List.getElem?_eq_getElem (by omega)
        rw [Go.Deep.add_add, hv, Nat.add_zero] at hcell
        have one : (cs'.drop 0).take 1 = [cs'[0]'(by omega)] := by
          rw [List.drop_eq_getElem_cons (by omega)]; rfl
        have hys : ys[0]? = some (ys[0]'(by omega)) := List.getElem?_eq_getElem _
        have := hg 0 _ rfl
        obtain ⟨s, e, _, hw⟩ := DataW.trod_string Tryd.underlying9 ((congrArg _ one.symm).trans (this.trans hys))
        exact ⟨s, by rw [hcell]; simpa using e, hw⟩
      · have hcell := hat 1 (by omega)
        have hv : cs'[1]? = some (cs'[1]'(by omega)) := List.getElem?_eq_getElem (by omega)
        rw [Go.Deep.add_add, hv] at hcell
        have one : (cs'.drop 1).take 1 = [cs'[1]'(by omega)] := by
          rw [List.drop_eq_getElem_cons (by omega)]; rfl
        have hys : ys[1]? = some (ys[1]'(by omega)) := List.getElem?_eq_getElem _
        have := hg 1 _ rfl
        obtain ⟨s, e, _, hw⟩ := DataW.trod_int Tryd.underlying2 ((congrArg _ one.symm).trans (this.trans hys))
        exact ⟨s, by rw [hcell]; simpa using e, hw⟩
    by_cases h0 : len = 0
    · subst h0
      exact ⟨_, [], hcs, ⟨⟨some a, cap, rfl, (fun e => nomatch e), fun x hx hl => absurd hl (by decide)⟩, by decide⟩, fun k hk => absurd hk (by simp), fun k hk => absurd hk (by simp), _, _, _, rfl, hl⟩
    · have hs : a.spot = none := by
        obtain ⟨⟨n, hn, _⟩, _⟩ := key 0 (by omega)
        have := World.cell?_spot hn
        simpa [Addr.add] using this
      obtain ⟨b, o, sp⟩ := a
      have hs' : sp = none := hs
      subst hs'
      have hlt : b < w.heap.size := by
        obtain ⟨⟨n, hn, _⟩, _⟩ := key 0 (by omega)
        rw [add_lit_ne] at hn
        exact World.block_lt_of_cell? _ _ hn
      have key2 : ∀ i, i < len → ∃ (s : ByteArray) (n : Int), (w.cell? ⟨b, o + i * 2, none⟩ = some (.string s) ∧ w.cell? ⟨b, o + i * 2 + 1, none⟩ = some (.int .i64 n)) ∧ s.size ≤ maxLen ∧ In64 n := fun i hi => by
        obtain ⟨⟨s, h1, h2⟩, ⟨n, h3, h4⟩⟩ := key i hi
        rw [add_lit_ne] at h1 h3
        exact ⟨s, n, ⟨h1, by rw [show o + i * 2 + 1 = o + (i * 2 + 1) by omega]; exact h3⟩, h2, in64_wf h4⟩
      refine ⟨_, monosOf w b o len, hcs, ?_⟩
      exact monos_arg hl (by have : maxLen = 9223372036854775807 := rfl; omega) hlt key2

theorem cellsBind : Tryd.prog.cellsOf 59 = 2 := by kernel_rfl

set_option maxRecDepth 100000 in
theorem trod_Binds {H : Type} {enc : TypeId × Value → H} {w : World} {base : Nat} {spare : Nat → Bool} {held : Bool} {fuel : Nat} {cs : List Value} {x : DataW H × List MemPlace}
    (hf : DataW.trod enc Tryd.prog w base spare held fuel 53 cs = some x) : ∃ v l, cs = [v] ∧ MonosArg w v l := by
  rcases open_slice Tryd.underlying53 hf with ⟨hcs, _⟩ | ⟨a, len, cap, m, n, D, Pl, hcs, hb, hl, hm, hmm, hx, hi⟩
  · exact ⟨_, [], hcs, SlAt.nil w 2 _, fun k hk => absurd hk (by simp), fun k hk => absurd hk (by simp), _, _, _, rfl, Nat.le_refl _⟩
  · rw [cellsBind] at hi
    have hlm : len ≤ m := by rw [hmm]; split <;> omega
    have key : ∀ i, i < len → (∃ s : ByteArray, w.cell? (a.add (i * 2)) = some (.string s) ∧ s.size ≤ maxLen) ∧ (∃ n, w.cell? (a.add (i * 2 + 1)) = some (.int .i64 n) ∧ (Lit.int .i64 n).wf = true) := by
      intro i hil
      obtain ⟨cs', hc, ht⟩ := hi i (by omega)
      obtain ⟨ys, n', hn', hy, hlen, hyl, hg⟩ := DataW.trod_struct Tryd.underlying59 ht
      obtain ⟨_, hcl, hat⟩ := World.cells?_some hc
      have hyl2 : ys.length = 2 := hyl
      constructor
      · have hcell := hat 0 (by omega)
        have hv : cs'[0]? = some (cs'[0]'(by omega)) := List.getElem?_eq_getElem (by omega)
        rw [Go.Deep.add_add, hv, Nat.add_zero] at hcell
        have one : (cs'.drop 0).take 1 = [cs'[0]'(by omega)] := by
          rw [List.drop_eq_getElem_cons (by omega)]; rfl
        have hys : ys[0]? = some (ys[0]'(by omega)) := List.getElem?_eq_getElem _
        have := hg 0 _ rfl
        obtain ⟨s, e, _, hw⟩ := DataW.trod_string Tryd.underlying9 ((congrArg _ one.symm).trans (this.trans hys))
        exact ⟨s, by rw [hcell]; simpa using e, hw⟩
      · have hcell := hat 1 (by omega)
        have hv : cs'[1]? = some (cs'[1]'(by omega)) := List.getElem?_eq_getElem (by omega)
        rw [Go.Deep.add_add, hv] at hcell
        have one : (cs'.drop 1).take 1 = [cs'[1]'(by omega)] := by
          rw [List.drop_eq_getElem_cons (by omega)]; rfl
        have hys : ys[1]? = some (ys[1]'(by omega)) := List.getElem?_eq_getElem _
        have := hg 1 _ rfl
        obtain ⟨s, e, _, hw⟩ := DataW.trod_int Tryd.underlying2 ((congrArg _ one.symm).trans (this.trans hys))
        exact ⟨s, by rw [hcell]; simpa using e, hw⟩
    by_cases h0 : len = 0
    · subst h0
      exact ⟨_, [], hcs, ⟨⟨some a, cap, rfl, (fun e => nomatch e), fun x hx hl => absurd hl (by decide)⟩, by decide⟩, fun k hk => absurd hk (by simp), fun k hk => absurd hk (by simp), _, _, _, rfl, hl⟩
    · have hs : a.spot = none := by
        obtain ⟨⟨n, hn, _⟩, _⟩ := key 0 (by omega)
        have := World.cell?_spot hn
        simpa [Addr.add] using this
      obtain ⟨b, o, sp⟩ := a
      have hs' : sp = none := hs
      subst hs'
      have hlt : b < w.heap.size := by
        obtain ⟨⟨n, hn, _⟩, _⟩ := key 0 (by omega)
        rw [add_lit_ne] at hn
        exact World.block_lt_of_cell? _ _ hn
      have key2 : ∀ i, i < len → ∃ (s : ByteArray) (n : Int), (w.cell? ⟨b, o + i * 2, none⟩ = some (.string s) ∧ w.cell? ⟨b, o + i * 2 + 1, none⟩ = some (.int .i64 n)) ∧ s.size ≤ maxLen ∧ In64 n := fun i hi => by
        obtain ⟨⟨s, h1, h2⟩, ⟨n, h3, h4⟩⟩ := key i hi
        rw [add_lit_ne] at h1 h3
        exact ⟨s, n, ⟨h1, by rw [show o + i * 2 + 1 = o + (i * 2 + 1) by omega]; exact h3⟩, h2, in64_wf h4⟩
      refine ⟨_, monosOf w b o len, hcs, ?_⟩
      exact monos_arg hl (by have : maxLen = 9223372036854775807 := rfl; omega) hlt key2

set_option maxRecDepth 100000 in
theorem open_Env {H : Type} {enc : TypeId × Value → H} {w : World} {base : Nat} {spare : Nat → Bool} {held : Bool} {r : Reach} {b0 : Nat} {v : Value} {d : DataW H} {p : List MemPlace}
    (hv : Value.okWide Tryd.prog w r b0 53 v) (h : DataW.Trod enc Tryd.prog w base spare held 53 v d p) : ∃ l, MonosArg w v l := by
  obtain ⟨a0, len, cap, rfl⟩ := okWide_slice Tryd.underlying53 hv
  obtain ⟨fuel, hf⟩ := h
  obtain ⟨v, l, hcs, hl⟩ := trod_Binds hf
  simp only [Value.cells, List.cons.injEq, and_true] at hcs
  subst hcs
  exact ⟨l, hl⟩

def LinArg (w : World) (v : Value) (K : Int) (l : List Mono) : Prop := ∃ lv, v = .agg #[.int .i64 K, lv] ∧ MonosArg w lv l ∧ In64 K
theorem cellsLin : Tryd.prog.cellsOf 24 = 2 := by kernel_rfl

set_option maxRecDepth 100000 in
theorem trod_Lin {H : Type} {enc : TypeId × Value → H} {w : World} {base : Nat} {spare : Nat → Bool} {held : Bool} {fuel : Nat} {c0 c1 : Value} {x : DataW H × List MemPlace}
    (hf : DataW.trod enc Tryd.prog w base spare held fuel 24 [c0, c1] = some x) : ∃ K l, LinArg w (.agg #[c0, c1]) K l := by
  obtain ⟨xs, n, _, hx, _, hlen, hg⟩ := DataW.trod_struct Tryd.underlying24 hf
  have hl : xs.length = 2 := hlen
  obtain ⟨K, e0, _, hw⟩ := DataW.trod_int Tryd.underlying2 ((hg 0 _ rfl).trans (List.getElem?_eq_getElem (by omega : 0 < xs.length)))
  obtain ⟨lv, l, e1, hm⟩ := trod_Monos ((hg 1 _ rfl).trans (List.getElem?_eq_getElem (by omega : 1 < xs.length)))
  have e0' : [c0] = [.int .i64 K] := e0
  have e1' : [c1] = [lv] := e1
  simp only [List.cons.injEq, and_true] at e0' e1'
  subst e0' e1'
  exact ⟨K, l, _, rfl, hm, in64_wf hw⟩

set_option maxRecDepth 100000 in
theorem open_Lin {H : Type} {enc : TypeId × Value → H} {w : World} {base : Nat} {spare : Nat → Bool} {held : Bool} {r : Reach} {b0 : Nat} {v : Value} {d : DataW H} {p : List MemPlace}
    (hv : Value.okWide Tryd.prog w r b0 24 v) (h : DataW.Trod enc Tryd.prog w base spare held 24 v d p) : ∃ x : Int × List Mono, LinArg w v x.1 x.2 := by
  obtain ⟨cs, rfl, hsz⟩ := okWide_struct Tryd.underlying24 hv
  obtain ⟨l⟩ := cs
  match l, hsz.trans cellsLin with
  | [c0, c1], _ =>
    obtain ⟨fuel, hf⟩ := h
    obtain ⟨K, l, hl⟩ := trod_Lin hf
    exact ⟨(K, l), hl⟩
end Go.Proofs.YtpclbgaaoednnaaDoor

