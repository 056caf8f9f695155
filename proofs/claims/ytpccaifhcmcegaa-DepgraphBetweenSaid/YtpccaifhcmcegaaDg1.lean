/-
  Lists of texts: Strings and Has of the base package.
-/
import Derived.Test.YtpccaifhcmcegaaDg0
import Derived.Test.YtpccaifhcmcegaaGb

import Derived.Deep.Cut
import Derived.BigRegion
namespace Go.Proofs.Ytpccaifhcmcegaa
set_option linter.unusedSimpArgs false
open Go.ChangeShapes Go.WideShapes Go.ChangeAt Go.RowKit
set_option linter.unusedVariables false
set_option maxRecDepth 100000

/-- An element's cells. -/
theorem LsAt.elem {α : Type} {k B : Nat} {R : Rel α} {w : World} {a : Option Addr} {n c : Nat} {l : List α} (h : LsAt k B R w (.slice a n c) l) (i : Nat) (hi : i < l.length) :
    ∃ (g o : Nat) (f : Nat → Value), a = some ⟨g, o, none⟩ ∧ g < w.heap.size ∧ (∀ j, j < k → w.cell? ⟨g, o + i * k + j, none⟩ = some (f j)) ∧ R w f l[i] := by
  obtain ⟨⟨a', c', e, _⟩, _, F, ⟨⟨a2, c2, e2, _, hx⟩, _⟩, hR⟩ := h
  cases e; cases e2
  cases a with
  | none =>
    rename_i h0
    exact absurd (h0 rfl) (by omega)
  | some x =>
    obtain ⟨b, o, sp⟩ := x
    obtain ⟨g1, g2, g3⟩ := hx ⟨b, o, sp⟩ rfl (by omega)
    have g1' : sp = none := g1
    subst g1'
    exact ⟨b, o, F i, rfl, g2, fun j hj => g3 i j hi hj, hR i hi⟩
theorem LsAt.shape {α : Type} {k B : Nat} {R : Rel α} {w : World} {v : Value} {l : List α} (h : LsAt k B R w v l) : ∃ a c, v = .slice a l.length c ∧ l.length ≤ c := h.1
theorem LsAt.str {w : World} {a : Option Addr} {n c : Nat} {l : List ByteArray} (h : LsAt 1 16 strR w (.slice a n c) l) (i : Nat) (hi : i < l.length) :
    ∃ (g o : Nat), a = some ⟨g, o, none⟩ ∧ g < w.heap.size ∧ w.cell? ⟨g, o + i, none⟩ = some (.string l[i]) ∧ l[i].size ≤ maxLen := by
  obtain ⟨g, o, f, h1, h2, h3, h4, h5⟩ := h.elem i hi
  have := h3 0 (by decide)
  rw [Nat.mul_one, Nat.add_zero, h4] at this
  exact ⟨g, o, h1, h2, this, h5⟩
theorem cell_up' {w w' : World} (h : Up w w') {g o : Nat} {v : Value} (hg : g < w.heap.size) (hc : w.cell? ⟨g, o, none⟩ = some v) : w'.cell? ⟨g, o, none⟩ = some v := (h.cell g o hg).trans hc
theorem tl_eq (a b : ByteArray) : (a.toList == b.toList) = decide (a = b) := by
  rw [Lib.toList_data, Lib.toList_data]
  by_cases h : a = b
  · subst h; simp
  · have : ¬ a.data.toList = b.data.toList := fun e => h (by
      obtain ⟨⟨x⟩⟩ := a
      obtain ⟨⟨y⟩⟩ := b
      exact congrArg (fun l => ByteArray.mk (Array.mk l)) e)
    rw [beq_eq_false_iff_ne.2 this, decide_eq_false h]
theorem drop_eq {α : Type} {l : List α} {i n : Nat} (hn : l.length = n) (hi : i < n) : l.drop i = l[i]'(by omega) :: l.drop (i + 1) := List.drop_eq_getElem_cons (by omega)
/-- Two lists of texts, from place i on. -/
theorem eq_drop {α : Type} {a b : List α} {i n : Nat} (ha : a.length = n) (hb : b.length = n) (hi : i < n) : (a.drop i = b.drop i) ↔ (a[i]'(by omega) = b[i]'(by omega) ∧ a.drop (i + 1) = b.drop (i + 1)) := by
  rw [drop_eq ha hi, drop_eq hb hi, List.cons.injEq]

set_option maxHeartbeats 2000000 in
theorem base_Strings (va vb : Value) (a b : List ByteArray) (w : World) (ha : LsAt 1 16 strR w va a) (hb : LsAt 1 16 strR w vb b) (r : Bool) (hr : decide (a = b) = r) :
    Calls Try.prog 11 #[va, vb] w fun e w' => e = .returned (.bool r) ∧ Up w w' := by
  obtain ⟨aa, ac, rfl, _⟩ := ha.shape
  obtain ⟨ba, bc, rfl, _⟩ := hb.shape
  obtain ⟨n, hn⟩ : ∃ n, a.length = n := ⟨_, rfl⟩
  obtain ⟨m, hm⟩ : ∃ n, b.length = n := ⟨_, rfl⟩
  rw [hn] at ha ⊢
  rw [hm] at hb ⊢
  have hnb : n ≤ 9223372036854775807 := hn ▸ ha.max
  have HA := Lib.hid ha
  have HB := Lib.hid hb
  have HN := Lib.hid hn
  have HM := Lib.hid hm
  have HR := Lib.hid hr
  clear ha hb hn hm hr
  by_cases hnm : n = m
  · subst hnm
    have hq : ((n : Int) == n) = true := by simp
    have HR0 : Hid (decide (a.drop 0 = b.drop 0) = r) := Lib.hid (by rw [List.drop_zero, List.drop_zero]; exact HR.out)
    go_enter Try.func11, Try.ntmps11
    go_wp2
    go_loopw [5] (fun iv wr => ∃ i : Nat, i ≤ n ∧ iv = .int .i64 i ∧ Up w wr ∧ decide (a.drop i = b.drop i) = r) (fun iv _ => n - (intOf iv).toNat)
    case atStart => exact ⟨0, by omega, rfl, Up.refl _, HR0.out⟩
    case round =>
      rename World => wr
      obtain ⟨i, hi, rfl, hw, hP⟩ := hrel
      have HU := Lib.hid hw
      have HP := Lib.hid hP
      clear hP HR0 HR hw
      by_cases hlt : i < n
      · have hltI : (i : Int) < n := by omega
        obtain ⟨g1, o1, rfl, hg1, hc1, _⟩ := HA.out.str i (by rw [HN.out]; exact hlt)
        obtain ⟨g2, o2, rfl, hg2, hc2, _⟩ := HB.out.str i (by rw [HM.out]; exact hlt)
        replace hc1 := cell_up' HU.out hg1 hc1
        replace hc2 := cell_up' HU.out hg2 hc2
        replace hg1 := Nat.lt_of_lt_of_le hg1 HU.out.size
        replace hg2 := Nat.lt_of_lt_of_le hg2 HU.out.size
        have HE := Lib.hid (eq_drop HN.out HM.out hlt)
        have hi1 : i < a.length := by rw [HN.out]; exact hlt
        have hi2 : i < b.length := by rw [HM.out]; exact hlt
        obtain ⟨x, hx⟩ : ∃ x, a[i]'hi1 = x := ⟨_, rfl⟩
        obtain ⟨y, hy⟩ : ∃ y, b[i]'hi2 = y := ⟨_, rfl⟩
        have HE : Hid ((a.drop i = b.drop i) ↔ (x = y ∧ a.drop (i + 1) = b.drop (i + 1))) := Lib.hid (by rw [← hx, ← hy]; exact HE.out)
        rw [hx] at hc1
        rw [hy] at hc2
        have q := tl_eq x y
        by_cases e : x = y
        · rw [decide_eq_true e] at q
          have q2 : (x.toList != y.toList) = false := by rw [bne, q]; rfl
          have HQ : Hid (decide (a.drop (i + 1) = b.drop (i + 1)) = r) := Lib.hid (by rw [← HP.out]; simp only [HE.out, e, true_and])
          clear hx hy hi1 hi2 e
          go_upto_region 6 with fail
          refine wp_region_ext (by kernel_rfl) (by kernel_rfl) ?_
          repeat (go_big_quiet_step (fail))
          refine wpQuiet_nil ?_
          intro z hz
          go_wp2
          go_roundw
          case rel => exact ⟨i + 1, by omega, by go_num, HU.out.trans hz, HQ.out⟩
          case measure => simp [intOf]; omega
        · rw [decide_eq_false e] at q
          have q2 : (x.toList != y.toList) = true := by rw [bne, q]; rfl
          have HQ : Hid (r = false) := Lib.hid (by rw [← HP.out]; simp [HE.out, e])
          clear hx hy hi1 hi2 e
          go_upto_region 6 with fail
          refine wp_region_ext (by kernel_rfl) (by kernel_rfl) ?_
          repeat (go_big_quiet_step (fail))
          refine wpQuiet_nil ?_
          intro z hz
          go_wp2
          go_ret
          exact ⟨ret_bool HQ.out.symm, HU.out.trans hz⟩
      · obtain rfl : i = n := by omega
        have HQ : Hid (r = true) := Lib.hid (by rw [← HP.out, List.drop_of_length_le (by rw [HN.out]; omega), List.drop_of_length_le (by rw [HM.out]; omega)]; rfl)
        go_wp2
        go_ret
        exact ⟨ret_bool HQ.out.symm, HU.out⟩
  · have hq : ((n : Int) == m) = false := by simp; omega
    have hq2 : ((n : Int) != m) = true := by rw [bne, hq]; rfl
    have HQ : Hid (r = false) := Lib.hid (by
      rw [← HR.out]
      refine decide_eq_false fun e => hnm ?_
      rw [← HN.out, ← HM.out, e])
    clear hnm
    go_enter Try.func11, Try.ntmps11
    go_wp2
    go_ret
    exact ⟨ret_bool HQ.out.symm, Up.refl _⟩

def has (l : List ByteArray) (s : ByteArray) : Bool := l.any fun x => decide (x = s)
set_option maxHeartbeats 2000000 in
theorem base_Has (s : ByteArray) (l : List ByteArray) (v : Value) (w : World) (hv : LsAt 1 16 strR w v l) (r : Bool) (hr : has l s = r) :
    Calls Try.prog 27 #[v, .string s] w fun e w' => e = .returned (.bool r) ∧ w' = w := by
  obtain ⟨a, c, rfl, _⟩ := hv.shape
  obtain ⟨n, hn⟩ : ∃ n, l.length = n := ⟨_, rfl⟩
  rw [hn] at hv ⊢
  have hnb : n ≤ 9223372036854775807 := hn ▸ hv.max
  have HV := Lib.hid hv
  have HN := Lib.hid hn
  have HR0 : Hid (has (l.drop 0) s = r) := Lib.hid hr
  clear hv hn hr
  go_enter Try.func27, Try.ntmps27
  go_wp2
  go_loopw [5] (fun iv wr => ∃ i : Nat, i ≤ n ∧ iv = .int .i64 i ∧ wr = w ∧ has (l.drop i) s = r) (fun iv _ => n - (intOf iv).toNat)
  case atStart => exact ⟨0, by omega, rfl, rfl, HR0.out⟩
  case round =>
    obtain ⟨i, hi, rfl, hw, hP⟩ := hrel
    replace hw := hw.symm
    subst hw
    have HP := Lib.hid hP
    clear hP HR0
    by_cases hlt : i < n
    · have hltI : (i : Int) < n := by omega
      obtain ⟨g1, o1, rfl, hg1, hc1, _⟩ := HV.out.str i (by rw [HN.out]; exact hlt)
      have hi1 : i < l.length := by rw [HN.out]; exact hlt
      have HE := Lib.hid (drop_eq HN.out hlt)
      obtain ⟨x, hx⟩ : ∃ x, l[i]'hi1 = x := ⟨_, rfl⟩
      have HE : Hid (l.drop i = x :: l.drop (i + 1)) := Lib.hid (by rw [← hx]; exact HE.out)
      rw [hx] at hc1
      have q := tl_eq x s
      by_cases e : x = s
      · rw [decide_eq_true e] at q
        have HQ : Hid (r = true) := Lib.hid (by rw [← HP.out, HE.out]; simp [has, e])
        clear hx hi1 e
        go_wp2
        go_ret
        exact ⟨ret_bool HQ.out.symm, rfl⟩
      · rw [decide_eq_false e] at q
        have HQ : Hid (has (l.drop (i + 1)) s = r) := Lib.hid (by rw [← HP.out, HE.out]; simp [has, e])
        clear hx hi1 e
        go_wp2
        go_roundw
        case rel => exact ⟨i + 1, by omega, by go_num, trivial, HQ.out⟩
        case measure => simp [intOf]; omega
    · obtain rfl : i = n := by omega
      have HQ : Hid (r = false) := Lib.hid (by rw [← HP.out, List.drop_of_length_le (by rw [HN.out]; omega)]; rfl)
      go_wp2
      go_ret
      exact ⟨ret_bool HQ.out.symm, rfl⟩
end Go.Proofs.Ytpccaifhcmcegaa
