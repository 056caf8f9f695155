/-
  Merged by a program (tools/mrg.py): PeD, PeC.
-/
import Derived.Test.YtbpojmhgifgfdaaDoorPeF
import Derived.Test.YtbpojmhgifgfdaaDoorPeP
import Derived.Test.YtbpojmhgifgfdaaDoorPeA
import Derived.Test.YtbpojmhgifgfdaaDoorPeH
import Derived.Test.YtbpojmhgifgfdaaDoorPeR

section
namespace Go.Proofs.YtbpojmhgifgfdaaDoor
open Go.ChangeShapes Go.WideShapes Go.ChangeAt Go.RowKit
set_option linter.unusedVariables false
set_option linter.unusedSimpArgs false

def goneB (seen : List Bool) (i : Nat) : Bool := !seen.getD i false
def idleAt (l : List Ins) (i : Nat) : Bool := decide (i + 1 < l.length) && idleB (l.getD i i0) i
def threadB (l : List Ins) (i : Nat) : Bool := jumpsB (l.getD i i0).1 && decide (finF l (l.getD i i0).2.1 ≠ (l.getD i i0).2.1)
def actF (l : List Ins) (seen : List Bool) (i : Nat) : Option (List Ins) :=
  if goneB seen i then some (remF l i) else if idleAt l i then some (remF l i) else if threadB l i then some (setA l i (finF l (l.getD i i0).2.1)) else none
def scanF (l : List Ins) (seen : List Bool) : Nat → Nat → Option (List Ins)
  | 0, _ => none
  | k + 1, i => if goneB seen i then some (remF l i) else if idleAt l i then some (remF l i) else if threadB l i then some (setA l i (finF l (l.getD i i0).2.1)) else scanF l seen k (i + 1)
def stepF (l : List Ins) (ts : List Typ) (words : Int) : Option (List Ins) := if (validateF l ts words).2 = 0 then scanF l (reachF l) l.length 0 else none
/-- k steps lead from l to r, and no further. -/
def OptTo (ts : List Typ) (words : Int) : Nat → List Ins → List Ins → Prop
  | 0, l, r => stepF l ts words = none ∧ r = l
  | k + 1, l, r => ∃ l', stepF l ts words = some l' ∧ OptTo ts words k l' r
theorem remG_len : ∀ (l : List Ins) (k i : Int), (remG l k i).length ≤ l.length
  | [], _, _ => Nat.le_refl _
  | x :: r, k, i => by
    rw [remG_cons, List.length_append, List.length_cons]
    have := remG_len r (k + 1) i
    split <;> simp <;> omega
theorem remF_len (l : List Ins) (i : Int) : (remF l i).length ≤ l.length := remG_len l 0 i
theorem scanF_len {l : List Ins} {seen : List Bool} {r : List Ins} : ∀ (k i : Nat), scanF l seen k i = some r → r.length ≤ l.length
  | 0, _, h => by cases h
  | k + 1, i, h => by
    unfold scanF at h
    split at h
    · cases h; exact remF_len _ _
    · split at h
      · cases h; exact remF_len _ _
      · split at h
        · cases h; rw [setA_len]; exact Nat.le_refl _
        · exact scanF_len k _ h
theorem stepF_len {l r : List Ins} {ts : List Typ} {words : Int} (h : stepF l ts words = some r) : r.length ≤ l.length := by
  unfold stepF at h
  split at h
  · exact scanF_len _ _ h
  · cases h

/-- A unit in a box. -/
def UBox (w : World) (g : Nat) (t : TypeId) (a b c d : Value) : Prop := w.heap[g]? = some (.cells #[a, b, c, d] t (0, 0))
theorem UBox.lt {w : World} {g : Nat} {t : TypeId} {a b c d : Value} (h : UBox w g t a b c d) : g < w.heap.size := (Array.getElem?_eq_some_iff.1 h).1
theorem UBox.up {w w' : World} {g : Nat} {t : TypeId} {a b c d : Value} (h : UBox w g t a b c d) (u : Up w w') : UBox w' g t a b c d := (u.heap g h.lt).trans h
theorem UBox.all {w : World} {g : Nat} {t : TypeId} {a b c d : Value} (h : UBox w g t a b c d) : w.cell? ⟨g, 0, none⟩ = some a ∧ w.cell? ⟨g, 1, none⟩ = some b ∧ w.cell? ⟨g, 2, none⟩ = some c ∧ w.cell? ⟨g, 3, none⟩ = some d :=
  ⟨cell_of_row _ _ _ _ _ _ h, cell_of_row _ _ _ _ _ _ h, cell_of_row _ _ _ _ _ _ h, cell_of_row _ _ _ _ _ _ h⟩
theorem UBox.frozen {w : World} {g : Nat} {t : TypeId} {a b c d : Value} (h : UBox w g t a b c d) (o : Nat) : w.frozen? ⟨g, o, none⟩ = false := frozen_of_row _ _ _ _ _ h
theorem UBox.new (w : World) (t : TypeId) (a b c d : Value) : UBox (w.alloc (.cells #[a, b, c, d] t)) w.heap.size t a b c d := heap_alloc_new w _
theorem UBox.new2 (w : World) (t t2 : TypeId) (a b c d a2 b2 c2 d2 : Value) : UBox ((w.alloc (.cells #[a2, b2, c2, d2] t2)).alloc (.cells #[a, b, c, d] t)) (w.heap.size + 1) t a b c d := by
  have := heap_alloc_new (w.alloc (.cells #[a2, b2, c2, d2] t2)) (.cells #[a, b, c, d] t (0, 0))
  rw [show (w.alloc (.cells #[a2, b2, c2, d2] t2)).heap.size = w.heap.size + 1 by simp] at this
  exact this
end Go.Proofs.YtbpojmhgifgfdaaDoor
end

section
namespace Go.Proofs.YtbpojmhgifgfdaaDoor
open Go.ChangeShapes Go.WideShapes Go.ChangeAt Go.RowKit
set_option linter.unusedVariables false
set_option linter.unusedSimpArgs false
set_option maxRecDepth 100000

/-- Name, At, Len -/
abbrev Slt := ByteArray × Int × Int
abbrev s0 : Slt := (⟨#[]⟩, 0, 0)
def sltF (l : List Slt) (i j : Nat) : Value :=
  match j with
  | 0 => .string (l.getD i s0).1
  | 1 => .int .i64 (l.getD i s0).2.1
  | _ => .int .i64 (l.getD i s0).2.2
theorem size_al (w : World) (o : Obj) : (w.alloc o).heap.size = w.heap.size + 1 := by simp
def SltAt (w : World) (v : Value) (l : List Slt) : Prop := SlAt w v l.length 3 (sltF l)
theorem SltAt.up {w w' : World} {v : Value} {l : List Slt} (h : SltAt w v l) (u : Up w w') : SltAt w' v l := SlAt.up h u
theorem SltAt.slice {w : World} {v : Value} {l : List Slt} (h : SltAt w v l) : (∃ a cap, v = .slice a l.length cap) ∧ l.length ≤ 9223372036854775807 := by
  obtain ⟨⟨a, cap, hv, _, _⟩, hm⟩ := h
  exact ⟨⟨a, cap, hv⟩, hm⟩
theorem SltAt.set {w : World} {v : Value} {l : List Slt} (h : SltAt w v l) {b : Nat} (hb : ∀ g, blk v = some g → g ≠ b) (o : Nat) (u : Value) : SltAt (w.setCell ⟨b, o, none⟩ u) v l := SlAt.set h hb o u
theorem sltF_one (l : List Slt) (i j : Nat) : (sltF l i j).oneCell' = true := by
  unfold sltF
  split <;> rfl
theorem typF_one (l : List Typ) (i j : Nat) : (typF l i j).oneCell' = true := rfl
theorem SltAt.of_own {w : World} {base n : Nat} {e : TypeId} {v : Value} {l : List Slt} (h : w.ownsRow base e 3 v n (flat (sltF l) n 3)) (hn : l.length = n) (hl : n ≤ 9223372036854775807) : SltAt w v l := by
  subst hn
  exact SlAt.of_own h hl fun i j hi hj => flat_get _ _ _ _ _ hi hj
theorem TypAt.of_own {w : World} {base n : Nat} {e : TypeId} {v : Value} {l : List Typ} (h : w.ownsRow base e 5 v n (flat (typF l) n 5)) (hn : l.length = n) (hl : n ≤ 9223372036854775807) (hr : ∀ x ∈ l, TyR x) : TypAt w v l := by
  subst hn
  exact ⟨SlAt.of_own h hl fun i j hi hj => flat_get _ _ _ _ _ hi hj, hr⟩
theorem typ_info : (Tryd.prog.info? 62).map (fun i => (i.zero, i.size, i.bytes)) = some (some (.agg #[.int .i64 0, .int .i64 0, .int .i64 0, .int .i64 0, .int .i64 0]), 5, 40) := by kernel_rfl
theorem slt_info : (Tryd.prog.info? 86).map (fun i => (i.zero, i.size, i.bytes)) = some (some (.agg #[.string ⟨#[]⟩, .int .i64 0, .int .i64 0]), 3, 32) := by kernel_rfl

set_option maxHeartbeats 8000000 in
theorem pe_copied (cv tv sv kv : Value) (words : Int) (lk : List Ins) (lt : List Typ) (ls : List Slt) (w : World) (hc : ∃ a n cap, cv = .slice a n cap) (hk : InsAt w kv lk) (ht : TypAt w tv lt) (hs : SltAt w sv ls)
    (h1 : lk.length ≤ 100000) (h2 : lt.length ≤ 100000) (h3 : ls.length ≤ 100000) :
    Calls Tryd.prog 27 #[.agg #[cv, tv, sv, .int .i64 words], kv] w fun e w' => ∃ c' t' s', e = .returned (.agg #[c', t', s', .int .i64 words]) ∧ Up w w' ∧ InsAt w' c' lk ∧ TypAt w' t' lt ∧ SltAt w' s' ls ∧ Fresh w.heap.size c' ∧ Fresh w.heap.size t' ∧ Fresh w.heap.size s' := by
  obtain ⟨a0, a1, a2, a3, a4⟩ := info_parts ins_info
  obtain ⟨b0, b1, b2, b3, b4⟩ := info_parts typ_info
  obtain ⟨c0, c1, c2, c3, c4⟩ := info_parts slt_info
  obtain ⟨ca, cn, cc, rfl⟩ := hc
  have HKR := Lib.hid hk.2
  have HTR := Lib.hid ht.2
  obtain ⟨⟨ka, kc, rfl⟩, km⟩ := hk.slice
  obtain ⟨⟨ta, tc, rfl⟩, tm⟩ := ht.slice
  obtain ⟨⟨sa, sc, rfl⟩, sm⟩ := hs.slice
  obtain ⟨n, hn⟩ : ∃ n, lk.length = n := ⟨_, rfl⟩
  obtain ⟨m, hm⟩ : ∃ m, lt.length = m := ⟨_, rfl⟩
  obtain ⟨k, hkk⟩ : ∃ k, ls.length = k := ⟨_, rfl⟩
  have HK : Hid (SlAt w (.slice ka n kc) n 11 (insF lk)) := Lib.hid (by have := hk.1; rw [hn] at this; exact this)
  have HT : Hid (SlAt w (.slice ta m tc) m 5 (typF lt)) := Lib.hid (by have := ht.1; rw [hm] at this; exact this)
  have HS : Hid (SlAt w (.slice sa k sc) k 3 (sltF ls)) := Lib.hid (by have := hs; unfold SltAt at this; rw [hkk] at this; exact this)
  rw [hn] at h1 km ⊢
  rw [hm] at h2 tm ⊢
  rw [hkk] at h3 sm ⊢
  have HN := Lib.hid hn
  have HM := Lib.hid hm
  have HKK := Lib.hid hkk
  clear hn hm hkk hk ht hs
  have HU : Hid (Up w ((w.alloc (.cells #[.slice ca cn cc, .slice ta m tc, .slice sa k sc, .int .i64 words] 33)).alloc (.cells #[.slice none 0 0, .slice none 0 0, .slice none 0 0, .int .i64 0] 33))) := Lib.hid (((Up.refl w).alloc _).alloc _)
  go_enter Tryd.func27, Tryd.ntmps27
  go_wp2
  refine wp_region_mk 11 (fun _ _ _ _ => False) (by kernel_rfl) (by kernel_rfl) ?_
  simp only [List.take_succ_cons, List.take_zero, List.drop_succ_cons, List.drop_zero]
  refine wpMk_quiet anti_post (by kernel_rfl) ?_; go_big_quiet_step (fail); refine wpQuiet_nil ?_
  refine wpMk_append anti_post _ _ 22 rfl 64 a0 _ 11 88 Tryd.underlying22 a1 a2 a3 a4 rfl (by decide) rfl (.slice ka n kc) n _ rfl (HK.out.up HU.out) (fun i j _ _ => insF_one _ _ _) (by unfold maxLen; omega) (by omega) (by kernel_rfl) ?_
  rintro vb vd ⟨y, hy, hown⟩
  simp only [Act.put, List.setIfInBounds_toArray, List.set_cons_succ, List.set_cons_zero]
  iterate 2 (refine wpMk_quiet anti_post (by kernel_rfl) ?_; go_big_quiet_step (fail); refine wpQuiet_nil ?_)
  refine wpMk_append anti_post _ _ 28 rfl 62 b0 _ 5 40 Tryd.underlying28 b1 b2 b3 b4 rfl (by decide) rfl (.slice ta m tc) m _ rfl (HT.out.up HU.out) (fun i j _ _ => typF_one _ _ _) (by unfold maxLen; omega) (by omega) (by kernel_rfl) ?_
  rintro tb td ⟨y2, hy2, hown2⟩
  simp only [Act.put, List.setIfInBounds_toArray, List.set_cons_succ, List.set_cons_zero]
  iterate 2 (refine wpMk_quiet anti_post (by kernel_rfl) ?_; go_big_quiet_step (fail); refine wpQuiet_nil ?_)
  refine wpMk_append anti_post _ _ 29 rfl 86 c0 _ 3 32 Tryd.underlying29 c1 c2 c3 c4 rfl (by decide) rfl (.slice sa k sc) k _ rfl (HS.out.up HU.out) (fun i j _ _ => sltF_one _ _ _) (by unfold maxLen; omega) (by omega) (by kernel_rfl) ?_
  rintro sb sd ⟨y3, hy3, hown3⟩
  simp only [Act.put, List.setIfInBounds_toArray, List.set_cons_succ, List.set_cons_zero]
  iterate 3 (refine wpMk_quiet anti_post (by kernel_rfl) ?_; go_big_quiet_step (fail); refine wpQuiet_nil ?_)
  refine wpMk_nil ?_
  rintro x hx ⟨⟨⟨_, hK⟩, hT⟩, hS⟩
  have hX : x.heap[w.heap.size + 1]? = some (.cells #[.slice none 0 0, .slice none 0 0, .slice none 0 0, .int .i64 0] 33 (0, 0)) := (hx.heap _ (by simp)).trans (by
    have := heap_alloc_new (w.alloc (.cells #[.slice ca cn cc, .slice ta m tc, .slice sa k sc, .int .i64 words] 33)) (.cells #[.slice none 0 0, .slice none 0 0, .slice none 0 0, .int .i64 0] 33 (0, 0))
    rw [size_al] at this
    exact this)
  have x0 : x.cell? ⟨w.heap.size + 1, 0, none⟩ = some (.slice none 0 0) := cell_of_row _ _ _ _ _ _ hX
  have x1 : x.cell? ⟨w.heap.size + 1, 1, none⟩ = some (.slice none 0 0) := cell_of_row _ _ _ _ _ _ hX
  have x2 : x.cell? ⟨w.heap.size + 1, 2, none⟩ = some (.slice none 0 0) := cell_of_row _ _ _ _ _ _ hX
  have x3 : x.cell? ⟨w.heap.size + 1, 3, none⟩ = some (.int .i64 0) := cell_of_row _ _ _ _ _ _ hX
  have xf : ∀ o, x.frozen? ⟨w.heap.size + 1, o, none⟩ = false := fun o => frozen_of_row _ _ _ _ _ hX
  have hX1 := set_heap (o := 0) hX (.slice vb n vd)
  have hX2 := set_heap (o := 1) hX1 (.slice tb m td)
  have hX3 := set_heap (o := 2) hX2 (.slice sb k sd)
  have HKO := Lib.hid (own_far (own_far (own_far (own_far hK hX (by decide) 0 (.slice vb n vd)) hX1 (by decide) 1 (.slice tb m td)) hX2 (by decide) 2 (.slice sb k sd)) hX3 (by decide) 3 (.int .i64 words))
  have HTO := Lib.hid (own_far (own_far (own_far (own_far hT hX (by decide) 0 (.slice vb n vd)) hX1 (by decide) 1 (.slice tb m td)) hX2 (by decide) 2 (.slice sb k sd)) hX3 (by decide) 3 (.int .i64 words))
  have HSO := Lib.hid (own_far (own_far (own_far (own_far hS hX (by decide) 0 (.slice vb n vd)) hX1 (by decide) 1 (.slice tb m td)) hX2 (by decide) 2 (.slice sb k sd)) hX3 (by decide) 3 (.int .i64 words))
  have HUX := Lib.hid (((((HU.out.trans hx).setCell (p := ⟨w.heap.size + 1, 0, none⟩) (by show w.heap.size ≤ w.heap.size + 1; omega) (.slice vb n vd)).setCell (p := ⟨w.heap.size + 1, 1, none⟩) (by show w.heap.size ≤ w.heap.size + 1; omega) (.slice tb m td)).setCell (p := ⟨w.heap.size + 1, 2, none⟩) (by show w.heap.size ≤ w.heap.size + 1; omega) (.slice sb k sd)).setCell (p := ⟨w.heap.size + 1, 3, none⟩) (by show w.heap.size ≤ w.heap.size + 1; omega) (.int .i64 words))
  clear hx hX hX1 hX2 hX3 hK hT hS hy hown hy2 hown2 hy3 hown3
  go_wp2
  refine bodyPost_ret (v := .agg #[.slice vb n vd, .slice tb m td, .slice sb k sd, .int .i64 words]) (by simp [results, Tryd.results27, go_sem, x0, x1, x2, x3]) rfl ?_
  exact ⟨_, _, _, rfl, HUX.out, InsAt.of_own HKO.out HN.out (by omega) HKR.out, TypAt.of_own HTO.out HM.out (by omega) HTR.out, SltAt.of_own HSO.out HKK.out (by omega), (Fresh.own HKO.out).le HU.out.size, (Fresh.own HTO.out).le HU.out.size, (Fresh.own HSO.out).le HU.out.size⟩
end Go.Proofs.YtbpojmhgifgfdaaDoor
end
