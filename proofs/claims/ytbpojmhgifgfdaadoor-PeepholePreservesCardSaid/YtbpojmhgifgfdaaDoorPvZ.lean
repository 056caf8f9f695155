/-
  Merged by a program (tools/mrg.py): PvI, PvZ.
-/
import Derived.Test.YtbpojmhgifgfdaaDoorPvH
import Derived.Test.YtbpojmhgifgfdaaDoorPeV

section
namespace Go.Proofs.YtbpojmhgifgfdaaDoor
open Go.ChangeShapes Go.WideShapes Go.ChangeAt Go.RowKit
set_option linter.unusedVariables false
set_option linter.unusedSimpArgs false
set_option maxRecDepth 100000

theorem ValsAt.elem {w wr : World} {v : Value} {l : List (Int × Int)} (h : ValsAt w v l) (hU : Up w wr) (k : Nat) (hk : k < l.length) {n : Nat} (hn : l.length = n) {a : Option Addr} {cap : Nat} (hv : v = .slice a n cap) :
    ∃ bl off, a = some ⟨bl, off, none⟩ ∧ bl < w.heap.size ∧ wr.cell? ⟨bl, off + k * 2, none⟩ = some (.int .i64 (l.getD k (0, 0)).1) ∧ wr.cell? ⟨bl, off + k * 2 + 1, none⟩ = some (.int .i64 (l.getD k (0, 0)).2) := by
  subst hn
  obtain ⟨⟨a', cap', hv', h0, hc⟩, hmax⟩ := h
  rw [hv'] at hv
  simp only [Value.slice.injEq] at hv
  obtain ⟨rfl, -, rfl⟩ := hv
  cases a' with
  | none => exact absurd (h0 rfl) (by omega)
  | some y =>
    obtain ⟨g1, g2, g3⟩ := hc y rfl (by omega)
    obtain ⟨bl, off, sp⟩ := y
    have g1' : sp = none := g1
    subst g1'
    exact ⟨bl, off, rfl, g2, (hU.cell _ _ g2).trans (g3 k 0 hk (by omega)), (hU.cell _ _ g2).trans (g3 k 1 hk (by omega))⟩

set_option maxHeartbeats 4000000 in
theorem base_Vals (va vb : Value) (l : List (Int × Int)) (w : World) (ha : ValsAt w va l) (hb : ValsAt w vb l) :
    Calls Tryd.prog 22 #[va, vb] w fun e w' => e = .returned (.bool true) ∧ Up w w' := by
  have HA := Lib.hid ha
  have HB := Lib.hid hb
  obtain ⟨⟨a, cap, rfl⟩, hmax⟩ := ha.slice
  obtain ⟨⟨b, cap2, rfl⟩, -⟩ := hb.slice
  obtain ⟨n, hn⟩ : ∃ n, l.length = n := ⟨_, rfl⟩
  rw [hn]
  rw [hn] at hmax
  have HN := Lib.hid hn
  clear hn ha hb
  have hmI : (n : Int) ≤ 9223372036854775807 := by omega
  go_enter Tryd.func22, Tryd.ntmps22
  go_wp2
  go_loopw [5] (fun iv wr => ∃ (k : Nat), k ≤ n ∧ iv = .int .i64 k ∧ Up w wr) (fun iv _ => n - (intOf iv).toNat)
  case atStart => exact ⟨0, by omega, rfl, Up.refl w⟩
  case round =>
    rename World => wr
    obtain ⟨k, hk, rfl, hU⟩ := hrel
    have HU := Lib.hid hU
    clear hU
    by_cases hlt : k < n
    · have hltI : (k : Int) < n := by omega
      obtain ⟨bl, off, hA, hbl, k0, k1⟩ := HA.out.elem HU.out k (by rw [HN.out]; exact hlt) HN.out (by rw [HN.out])
      obtain ⟨bl2, off2, hB, hbl2, m0, m1⟩ := HB.out.elem HU.out k (by rw [HN.out]; exact hlt) HN.out (by rw [HN.out])
      subst hA hB
      generalize (l.getD k (0, 0)).1 = y1 at *
      generalize (l.getD k (0, 0)).2 = y2 at *
      have hb1 : bl < wr.heap.size := Nat.lt_of_lt_of_le hbl HU.out.size
      have hb2 : bl2 < wr.heap.size := Nat.lt_of_lt_of_le hbl2 HU.out.size
      go_wp2
      refine wp_region_ext (by kernel_rfl) (by kernel_rfl) ?_
      repeat (go_big_quiet_step (fail))
      refine wpQuiet_nil ?_
      intro x5 hx5
      have HU5 := Lib.hid (HU.out.trans hx5)
      go_wp2
      go_roundw
      case rel => exact ⟨k + 1, by omega, by go_num, HU5.out⟩
      case measure => simp [intOf]; omega
    · have hkn : n = k := by omega
      subst hkn
      go_wp2
      go_ret
      exact ⟨rfl, HU.out⟩

set_option maxHeartbeats 4000000 in
theorem base_Int64s (va vb : Value) (l : List Int) (w : World) (ha : IntsAt w va l) (hb : IntsAt w vb l) :
    Calls Tryd.prog 23 #[va, vb] w fun e w' => e = .returned (.bool true) ∧ Up w w' := by
  have HA := Lib.hid ha
  have HB := Lib.hid hb
  obtain ⟨⟨a, cap, rfl⟩, hmax⟩ := ha.slice
  obtain ⟨⟨b, cap2, rfl⟩, -⟩ := hb.slice
  obtain ⟨n, hn⟩ : ∃ n, l.length = n := ⟨_, rfl⟩
  rw [hn]
  rw [hn] at hmax
  have HN := Lib.hid hn
  clear hn ha hb
  have hmI : (n : Int) ≤ 9223372036854775807 := by omega
  go_enter Tryd.func23, Tryd.ntmps23
  go_wp2
  go_loopw [5] (fun iv wr => ∃ (k : Nat), k ≤ n ∧ iv = .int .i64 k ∧ Up w wr) (fun iv _ => n - (intOf iv).toNat)
  case atStart => exact ⟨0, by omega, rfl, Up.refl w⟩
  case round =>
    rename World => wr
    obtain ⟨k, hk, rfl, hU⟩ := hrel
    have HU := Lib.hid hU
    clear hU
    by_cases hlt : k < n
    · have hltI : (k : Int) < n := by omega
      obtain ⟨bl, off, hA, hbl, k0⟩ := HA.out.elem HU.out k (by rw [HN.out]; exact hlt) HN.out (by rw [HN.out])
      obtain ⟨bl2, off2, hB, hbl2, m0⟩ := HB.out.elem HU.out k (by rw [HN.out]; exact hlt) HN.out (by rw [HN.out])
      subst hA hB
      generalize l.getD k 0 = y1 at *
      have hb1 : bl < wr.heap.size := Nat.lt_of_lt_of_le hbl HU.out.size
      have hb2 : bl2 < wr.heap.size := Nat.lt_of_lt_of_le hbl2 HU.out.size
      go_wp2
      refine wp_region_ext (by kernel_rfl) (by kernel_rfl) ?_
      repeat (go_big_quiet_step (fail))
      refine wpQuiet_nil ?_
      intro x5 hx5
      have HU5 := Lib.hid (HU.out.trans hx5)
      go_wp2
      go_roundw
      case rel => exact ⟨k + 1, by omega, by go_num, HU5.out⟩
      case measure => simp [intOf]; omega
    · have hkn : n = k := by omega
      subst hkn
      go_wp2
      go_ret
      exact ⟨rfl, HU.out⟩

def insB (at' many m : Int) : Bool := decide (0 ≤ at' ∧ 0 ≤ many ∧ at' ≤ m ∧ many ≤ m - at')
set_option maxHeartbeats 4000000 in
theorem r49_inside (cv tv xv rv ma mc : Value) (a : Option Addr) (n cap : Nat) (pc at' many : Int) (h : Bool) (hn : n ≤ 100000) (r : Bool) (hr : insB at' many n = r) (w : World)
    (hs : (∃ b k c, cv = .slice b k c) ∧ (∃ b k c, tv = .slice b k c) ∧ (∃ b k c, xv = .slice b k c) ∧ (∃ b k c, rv = .slice b k c)) :
    Calls Tryd.prog 37 #[.agg #[cv, tv, .int .i64 pc, xv, rv, .slice a n cap, .bool h], .int .i64 at', .int .i64 many] w fun e w' => e = .returned (.bool r) ∧ Up w w' := by
  obtain ⟨⟨b1, n1, c1, rfl⟩, ⟨b2, n2, c2, rfl⟩, ⟨b3, n3, c3, rfl⟩, ⟨b4, n4, c4, rfl⟩⟩ := hs
  have HR := Lib.hid hr
  have hnI : (n : Int) ≤ 100000 := by omega
  clear hr
  go_enter Tryd.func37, Tryd.ntmps37
  go_wp2
  all_goals try simp only [Bool.not_eq_false', Bool.not_eq_true', bne_iff_ne, ne_eq, bne_eq_false_iff_eq, beq_iff_eq, beq_eq_false_iff_ne, decide_eq_true_eq, decide_eq_false_iff_not] at *
  all_goals
    go_ret
    exact ⟨ret_bool (by rw [← HR.out, insB, Bool.eq_iff_iff]; simp [*]; try omega), (Up.refl w).alloc _⟩
end Go.Proofs.YtbpojmhgifgfdaaDoor
end

section
namespace Go.Proofs.YtbpojmhgifgfdaaDoor
open Go.ChangeShapes Go.WideShapes Go.ChangeAt Go.RowKit
set_option linter.unusedVariables false
set_option linter.unusedSimpArgs false
set_option maxRecDepth 100000

/-- A slice whose room is at least its length. -/
def CapOK (v : Value) : Prop := ∃ a n c, v = .slice a n c ∧ n ≤ c ∧ c ≤ 9223372036854775807
theorem CapOK.own {w : World} {base n k : Nat} {e : TypeId} {v : Value} {xs : List Value} (h : w.ownsRow base e k v n xs) : CapOK v := by
  rcases h.2 with ⟨rfl, rfl⟩ | ⟨g, cap, cur, rfl, hb, hg, hnc, hcm, hx⟩
  · exact ⟨none, 0, 0, rfl, Nat.le_refl _, by omega⟩
  · exact ⟨_, _, _, rfl, hnc, by unfold maxLen at hcm; omega⟩
def zeroL (n : Nat) : List (Int × Int) := List.replicate n (0, 1)
theorem zeroL_len (n : Nat) : (zeroL n).length = n := List.length_replicate
theorem zeroL_snoc (k : Nat) : flat (vlF (zeroL k)) k 2 ++ flat (vlF [(0, 1)]) 1 2 = flat (vlF (zeroL (k + 1))) (k + 1) 2 :=
  flat_snoc (by decide) (fun i j hi _ => by
    unfold vlF zeroL
    rw [List.getD_eq_getElem?_getD, List.getD_eq_getElem?_getD, List.getElem?_replicate, List.getElem?_replicate, if_pos (by omega), if_pos hi]) (fun j _ => by
    unfold vlF zeroL
    rw [List.getD_eq_getElem?_getD, List.getElem?_replicate, if_pos (by omega)]; rfl)

set_option maxHeartbeats 8000000 in
theorem r49_zeros (n : Nat) (hn : n ≤ 100000) (w : World) :
    Calls Tryd.prog 36 #[.int .i64 n] w fun e w' => ∃ v, e = .returned v ∧ Up w w' ∧ ValsAt w' v (zeroL n) ∧ Fresh w.heap.size v ∧ CapOK v := by
  obtain ⟨j0, hi0, hz0, hz1, hz2⟩ := info_parts val_info
  have hnI : (n : Int) ≤ 100000 := by omega
  obtain ⟨B, hB⟩ : ∃ B, w.heap.size = B := ⟨_, rfl⟩
  have HB := Lib.hid hB
  clear hB
  go_enter Tryd.func36, Tryd.ntmps36
  go_wp2
  go_loopw [3, 4] (fun ov kv wr => ∃ k : Nat, k ≤ n ∧ kv = .int .i64 k ∧ wr.ownsRow B 60 2 ov k (flat (vlF (zeroL k)) k 2) ∧ Up w wr) (fun _ kv _ => n - (intOf kv).toNat)
  case atStart => exact ⟨0, by omega, rfl, World.ownsRow_nil _ _ _ _, Up.refl w⟩
  case round =>
    rename World => wr
    obtain ⟨k, hk, rfl, hown, hU⟩ := hrel
    obtain ⟨va, vc, rfl⟩ := own_slice hown
    have HOWN := Lib.hid hown
    have HU := Lib.hid hU
    clear hown hU
    by_cases hlt : k < n
    · have hltI : (k : Int) < n := by omega
      have HUW : Hid (Up wr (wr.alloc (.cells #[.int .i64 0, .int .i64 1] 60))) := Lib.hid ((Up.refl wr).alloc _)
      have HSL : Hid (SlAt (wr.alloc (.cells #[.int .i64 0, .int .i64 1] 60)) (.slice (some ⟨wr.heap.size, 0, none⟩) 1 1) 1 2 (vlF [(0, 1)])) := Lib.hid (SlAt.lay wr _ _ 1 2 _ (by decide) fun i j hi hj => by
        obtain rfl : i = 0 := by omega
        rcases (by omega : j = 0 ∨ j = 1) with rfl | rfl <;> rfl)
      go_wp2_with (at_builtin; refine wpList_append_sl _ rfl _ _ 47 rfl B 60 j0 _ 2 16 Tryd.underlying47 hi0 hz0 hz1 hz2 rfl (by decide) (.slice va k vc) k _ rfl (own_up' HOWN.out HUW.out) (.slice (some ⟨wr.heap.size, 0, none⟩) 1 1) 1 (vlF [(0, 1)]) rfl HSL.out (fun i j _ _ => vlF_one _ _ _) (by rw [maxLen]; omega) (by omega) (by rw [← HB.out]; exact (HU.out.trans HUW.out).size) ?_; rintro v' w1 ho1 hg1 - -; obtain ⟨vb, vd, rfl⟩ := own_slice ho1; have HO1 := Lib.hid ho1; have HG1 := Lib.hid hg1; clear ho1 hg1)
      have HUN := Lib.hid ((HU.out.trans HUW.out).grown HG1.out fun g hg => by rw [HB.out]; exact own_base HOWN.out g hg)
      have HON : Hid (w1.ownsRow B 60 2 (.slice vb (k + 1) vd) (k + 1) (flat (vlF (zeroL (k + 1))) (k + 1) 2)) := Lib.hid (by have := HO1.out; rw [zeroL_snoc] at this; exact this)
      clear HO1 HG1
      try go_roundw
      case rel => exact ⟨k + 1, by omega, by go_num, HON.out, HUN.out⟩
      case measure => simp [intOf]; omega
    · have hkn : n = k := by omega
      subst hkn
      go_wp2
      go_ret
      exact ⟨_, rfl, HU.out, ValsAt.of_own HOWN.out (zeroL_len n) (by omega), HB.out ▸ Fresh.own HOWN.out, CapOK.own HOWN.out⟩
end Go.Proofs.YtbpojmhgifgfdaaDoor
end
