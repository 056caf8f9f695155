/-
  Targets of isa: Sort, Compact of a row of numbers; the walk.
-/
import Derived.Test.YtlglfdhiopnglaaGreatDoorIsRe
import Derived.Sort.OwnSortedInts
import Derived.Lib.OwnBridge
namespace Go.Proofs.YtlglfdhiopnglaaGreatDoor
open Go.ChangeShapes Go.WideShapes Go.ChangeAt Go.RowKit
set_option linter.unusedVariables false
set_option linter.unusedSimpArgs false
set_option maxRecDepth 100000

theorem below_grow {B : Nat} {w0 w : World} (h : Below B w0 w) (hB : B ≤ w.heap.size) (os : Array Obj) : Below B w0 (Sort.grow w os) :=
  h.trans ⟨rfl, rfl, rfl, by simp, fun k hk => Sort.heap_grow_old w os (by omega)⟩
/-- What Sort and Compact leave of numbers. -/
def sortI (l : List Int) : List Int := Lib.compact (l.mergeSort fun x y => decide (x ≤ y))
/-- The targets, in the order of the instructions. -/
def tgtL (l : List Ins) : List Int := (l.filter fun x => jumpsB x.1).map (·.2.1)
theorem tail_ints (B : Nat) (w0 : World) (hB : w0.heap.size = B) (v : Value) (all : List Int) (w : World) (hU : Up w0 w) (hown : w.ownsRow B 3 1 v all.length (intV all)) (hn : all.length ≤ 100000) :
    Calls Tryz.prog 46 #[v] w fun e w1 => e = .returned (.tuple #[]) ∧ Calls Tryz.prog 47 #[v] w1 fun e w2 => ∃ v2, e = .returned v2 ∧ IntsAt w2 v2 (sortI all) ∧ Up w0 w2 := by
  by_cases h0 : all = []
  · subst h0
    obtain ⟨a, cap, rfl⟩ := own_slice hown
    refine (Tryz.slices_Sort_int_none a cap w).mono fun e w1 ⟨he, hw⟩ => ⟨he, ?_⟩
    rw [hw]
    refine (Tryz.slices_Compact_int_empty a cap w).mono fun e w2 ⟨he, hw⟩ => ?_
    rw [hw]
    have e0 : sortI [] = [] := by unfold sortI; rw [List.mergeSort_nil]; rfl
    refine ⟨_, he, ?_, hU⟩
    rw [e0]
    exact ⟨⟨a, cap, rfl, (fun _ => rfl), fun x hx hl => absurd hl (by simp)⟩, by decide⟩
  · have hlen : 0 < all.length := by
      cases all with
      | nil => exact absurd rfl h0
      | cons x r => simp
    have hne : v ≠ .slice none 0 0 := by
      rcases hown.2 with ⟨_, hz⟩ | ⟨g, cap, cur, rfl, _⟩
      · omega
      · intro h; cases h
    have hown : w.ownsRow B 3 1 v all.length (all.map (Value.int .i64)) := hown
    obtain ⟨g, cap, rfl, hg1, hg2, hc1, hc2, hl, hH⟩ := Lib.holds_of_ownsRow hown hne
    obtain ⟨ts, hts⟩ : ∃ ts, (all.mergeSort fun x y => decide (x ≤ y)) = ts := ⟨_, rfl⟩
    have htl : ts.length = all.length := by rw [← hts, List.length_mergeSort]
    have hS := Tryz.slices_Sort_int g 0 cap all w hH hg2 (by omega)
    rw [hts] at hS
    refine hS.mono fun e w1 ⟨he, n, os, hw⟩ => ⟨he, ?_⟩
    obtain ⟨cur, hcur, hcs⟩ : ∃ cur, w.heap[g]? = some (.cells cur 3 (0, 0)) ∧ cur.size = cap * 1 := by
      rcases hown.2 with ⟨hv, _⟩ | ⟨g', cap', cur, hv, _, hg, _, _, hs, _⟩
      · cases hv
      · simp only [Value.slice.injEq, Option.some.injEq, Addr.mk.injEq] at hv
        obtain ⟨⟨rfl, _⟩, _, rfl⟩ := hv
        exact ⟨cur, hg, hs⟩
    have hown1 : w1.ownsRow B 3 1 (.slice (some ⟨g, 0, none⟩) ts.length cap) ts.length (ts.map (Value.int .i64)) := by
      rw [hw, htl]
      exact ownsRow_sortedI htl hg1 hcur (by omega) hc2 hcs
    have hU1 : Below B w0 w1 := by
      rw [hw]
      exact below_grow (Lib.below_putRow (hB ▸ hU) hg1) (by simp; omega) os
    have hH1 : Sort.Holds (Value.int .i64) w1 g 0 ts.toArray := by
      obtain ⟨g', cap', hv', _, _, _, _, _, hH1⟩ := Lib.holds_of_ownsRow hown1 (by intro h; cases h)
      simp only [Value.slice.injEq, Option.some.injEq, Addr.mk.injEq] at hv'
      obtain ⟨⟨rfl, _⟩, _, rfl⟩ := hv'
      exact hH1
    have hC := Tryz.slices_Compact_int g 0 cap ts w1 hH1 (by omega) (by omega)
    rw [show ts.length = all.length by omega] at hC
    refine hC.mono fun e w2 ⟨he, q, hw2⟩ => ?_
    have hcl : (Lib.compact ts).length ≤ ts.length := by
      unfold Lib.compact Lib.compactUpTo
      rw [List.length_map]
      exact Nat.le_trans (List.length_filter_le _ _) (by simp)
    have hown2 := Lib.ownsRow_putRow (q := q) (ys := Lib.compact ts ++ List.replicate (all.length - (Lib.compact ts).length) 0) hown1 (by simp; omega) (k := (Lib.compact ts).length) hcl
    rw [← hw2, List.take_left] at hown2
    refine ⟨_, he, ?_, ?_⟩
    · have e1 : sortI all = Lib.compact ts := by unfold sortI; rw [hts]
      rw [e1]
      exact IntsAt.own hown2 rfl (by omega)
    · rw [hw2]
      have := Lib.below_putRow (enc := Value.int .i64) (q := q) (d := (Lib.compact ts ++ List.replicate (all.length - (Lib.compact ts).length) 0).toArray) hU1 hg1
      unfold Up; rw [hB]; exact this
theorem tgtL_cons (x : Ins) (r : List Ins) : tgtL (x :: r) = (if jumpsB x.1 then [x.2.1] else []) ++ tgtL r := by
  unfold tgtL
  rw [List.filter_cons]
  split <;> simp

set_option maxHeartbeats 8000000 in
theorem isa_Targets (v : Value) (l : List Ins) (w : World) (hv : InsAt w v l) (hlen : l.length ≤ 100000) (hT : ITab w) :
    Calls Tryz.prog 21 #[v] w fun e w' => ∃ v', e = .returned v' ∧ Up w w' ∧ IntsAt w' v' (sortI (tgtL l)) := by
  obtain ⟨ii, hii, iz0, iz1, iz2⟩ := info_parts int_info
  obtain ⟨r, hr⟩ : ∃ r, tgtL l = r := ⟨_, rfl⟩
  rw [hr]
  have HV := Lib.hid hv
  have HT := Lib.hid hT
  obtain ⟨⟨a, cap, rfl⟩, hmax⟩ := hv.slice
  obtain ⟨n, hn⟩ : ∃ n, l.length = n := ⟨_, rfl⟩
  rw [hn] at hmax hlen ⊢
  have HN := Lib.hid hn
  have HR : Hid (tgtL l = r) := Lib.hid hr
  obtain ⟨B, hB⟩ : ∃ B, w.heap.size = B := ⟨_, rfl⟩
  have HB := Lib.hid hB
  clear hn hr hv hB hT
  have hmI : (n : Int) ≤ 100000 := by omega
  go_enter Tryz.func21, Tryz.ntmps21
  go_wp2
  go_loopw [3, 8] (fun ov kv wr => ∃ (k m : Nat) (ys : List Int), k ≤ n ∧ m ≤ k ∧ kv = .int .i64 k ∧ ys.length = m ∧ wr.ownsRow B 3 1 ov m (intV ys) ∧ ys ++ tgtL (l.drop k) = r ∧ Up w wr) (fun _ kv _ => n - (intOf kv).toNat)
  case atStart => exact ⟨0, 0, [], by omega, by omega, rfl, rfl, World.ownsRow_nil _ _ _ _, by rw [List.drop_zero]; exact HR.out, Up.refl w⟩
  case round =>
    rename World => wr
    obtain ⟨k, m, ys, hk, hmk, rfl, hm, hown, hf, hU⟩ := hrel
    obtain ⟨va, vc, rfl⟩ := own_slice hown
    have HOWN := Lib.hid hown
    have HU := Lib.hid hU
    have HM := Lib.hid hm
    clear hown hU hm
    by_cases hlt : k < n
    · have hltI : (k : Int) < n := by omega
      obtain ⟨x, hx⟩ : ∃ x, l.getD k i0 = x := ⟨_, rfl⟩
      obtain ⟨bl, off, ha, hbl, ⟨k0, k1, k2, k3, k4, k5, k6, k7, k8, k9, k10⟩, hxr⟩ := HV.out.elem HU.out k (by rw [HN.out]; exact hlt) HN.out (by rw [HN.out]) hx
      subst ha
      have hb1 : bl < wr.heap.size := Nat.lt_of_lt_of_le hbl HU.out.size
      rw [drop_ins HN.out hlt hx, tgtL_cons] at hf
      clear hbl hx hxr
      obtain ⟨op, A, b, c, ⟨n1, d⟩, kd, bi, fr, ro, ov⟩ := x
      dsimp only at k0 k1 k2 k3 k4 k5 k6 k7 k8 k9 k10 hf
      have HF := Lib.hid hf
      clear hf
      obtain ⟨jj, hj⟩ : ∃ jj, jumpsB op = jj := ⟨_, rfl⟩
      have HJ : Hid (∀ v, Up w v → Calls Tryz.prog 45 #[.int .i64 op] v fun e' w' => e' = .returned (.bool jj) ∧ Up v w') := Lib.hid (fun v hv => hj ▸ isa_jumps op v (HT.out.up hv))
      rw [hj] at HF
      clear hj
      have HBX : Hid (BoxC (wr.alloc (.cells #[.int .i64 op, .int .i64 A, .int .i64 b, .int .i64 c, .int .i64 n1, .int .i64 d, .int .i64 kd, .int .i64 bi, .int .i64 fr, .int .i64 ro, .int .i64 ov] 42)) wr.heap.size 42 #[.int .i64 op, .int .i64 A, .int .i64 b, .int .i64 c, .int .i64 n1, .int .i64 d, .int .i64 kd, .int .i64 bi, .int .i64 fr, .int .i64 ro, .int .i64 ov]) := Lib.hid (BoxC.new wr _ _)
      have HUA : Hid (Up wr (wr.alloc (.cells #[.int .i64 op, .int .i64 A, .int .i64 b, .int .i64 c, .int .i64 n1, .int .i64 d, .int .i64 kd, .int .i64 bi, .int .i64 fr, .int .i64 ro, .int .i64 ov] 42))) := Lib.hid ((Up.refl wr).alloc _)
      cases jj
      · have HG : Hid (ys ++ tgtL (l.drop (k + 1)) = r) := Lib.hid (by have := HF.out; simpa using this)
        go_wp2_with (go_at_call 45; refine (HJ.out _ (HU.out.trans HUA.out)).mono ?_; rintro e y ⟨rfl, hy⟩; have HY := Lib.hid (HUA.out.trans hy); clear hy)
        go_roundw
        case rel => exact ⟨k + 1, m, ys, by omega, by omega, by go_num, HM.out, own_up' HOWN.out HY.out, HG.out, HU.out.trans HY.out⟩
        case measure => simp [intOf]; omega
      · have HG : Hid ((ys ++ [A]) ++ tgtL (l.drop (k + 1)) = r) := Lib.hid (by have := HF.out; rw [if_pos rfl] at this; rw [← this, List.append_assoc])
        go_wp2_with (first
          | (go_at_call 45; refine (HJ.out _ (HU.out.trans HUA.out)).mono ?_; rintro e y ⟨rfl, hy⟩; have HY := Lib.hid (HUA.out.trans hy); have HBY := Lib.hid (HBX.out.up hy); have y1 := cell_of_row _ _ 1 _ _ _ HBY.out; have HOY := Lib.hid (own_up' HOWN.out HY.out); clear hy)
          | (at_builtin; refine wpList_append_sl _ rfl _ _ 45 rfl B 3 ii _ 1 8 Tryz.underlying45 hii iz0 iz1 iz2 rfl (by decide) (.slice va m vc) m _ rfl (own_up' HOY.out ((Up.refl y).alloc _)) (.slice (some ⟨y.heap.size, 0, none⟩) 1 1) 1 _ rfl (IntsAt.one' y 3 A rfl) (fun i j _ _ => rfl) (by unfold maxLen; omega) (by omega) (by have := HU.out.size; have := HY.out.size; have := HB.out; simp at *; omega) ?_; intro v2 w1 hown1 hg1 hat1 hnil1; obtain ⟨vb, vd, rfl⟩ := own_slice hown1; have HO1 := Lib.hid hown1; have HG1 := Lib.hid hg1; clear hown1 hg1 hat1 hnil1))
        have HUN : Hid (Up w w1) := Lib.hid (((HU.out.trans HY.out).alloc (.cells #[.int .i64 A] 3)).grown HG1.out fun g hg => by rw [HB.out]; exact own_base HOWN.out g hg)
        have HON := Lib.hid (int_snoc ys A ▸ HO1.out)
        try go_roundw
        case rel => exact ⟨k + 1, m + 1, ys ++ [A], by omega, by omega, by go_num, by rw [List.length_append, HM.out]; rfl, HON.out, HG.out, HUN.out⟩
        case measure => simp [intOf]; omega
    · obtain rfl : k = n := by omega
      have HG : Hid (r = ys) := Lib.hid (by rw [← hf, List.drop_eq_nil_of_le (by rw [HN.out]; omega)]; simp [tgtL])
      clear hf
      have HTI := Lib.hid (tail_ints B w HB.out (.slice va m vc) ys wr HU.out (by rw [HM.out]; exact HOWN.out) (by rw [HM.out]; omega))
      go_wp2_with (first
        | (go_at_call 47; refine HCC.out.mono ?_; rintro e z2 ⟨v2, rfl, hints, hu2⟩; have HI2 := Lib.hid hints; have HU2 := Lib.hid hu2; clear hints hu2)
        | (go_at_call 46; refine HTI.out.mono ?_; rintro e z ⟨rfl, hcc⟩; have HCC := Lib.hid hcc; clear hcc))
      go_ret
      exact ret_v ⟨HU2.out, HG.out ▸ HI2.out⟩
end Go.Proofs.YtlglfdhiopnglaaGreatDoor
