/-
  apply: one theorem for each rule. Printed by mkPeP.py.
-/
import Derived.Test.YtbpojmhgifgfdaaDoorPeF
import Derived.Test.YtbpojmhgifgfdaaDoorPeR
import Derived.Test.YtbpojmhgifgfdaaDoorPeS

namespace Go.Proofs.YtbpojmhgifgfdaaDoor
open Go.ChangeShapes Go.WideShapes Go.ChangeAt Go.RowKit
set_option linter.unusedVariables false
set_option linter.unusedSimpArgs false
set_option maxRecDepth 100000

/-- The instruction at i gets another target. -/
def setA (l : List Ins) (i : Nat) (t : Int) : List Ins := l.set i ((l.getD i i0).1, t, (l.getD i i0).2.2)
theorem setA_len (l : List Ins) (i : Nat) (t : Int) : (setA l i t).length = l.length := List.length_set
theorem ins_set (l : List Ins) (i n : Nat) (hn : l.length = n) (hi : i < n) (t : Int) : (flat (insF l) n 11).set (i * 11 + 1) (.int .i64 t) = flat (insF (setA l i t)) n 11 := by
  subst hn
  refine List.ext_getElem? fun q => ?_
  rcases Nat.lt_or_ge q (l.length * 11) with hq | hq
  · have hd : q / 11 < l.length := by omega
    have hm : q % 11 < 11 := by omega
    have e : q = q / 11 * 11 + q % 11 := by omega
    rw [List.getElem?_set]
    by_cases he : i * 11 + 1 = q
    · subst he
      rw [if_pos rfl, if_pos (by rw [flat_length]; exact hq), flat_get _ _ _ _ _ hi (by omega)]
      unfold insF setA
      rw [List.getD_eq_getElem?_getD, List.getElem?_set, if_pos rfl, if_pos hi]
      rfl
    · rw [if_neg he]
      obtain ⟨a, ha⟩ : ∃ a, q / 11 = a := ⟨_, rfl⟩
      obtain ⟨j, hj⟩ : ∃ j, q % 11 = j := ⟨_, rfl⟩
      rw [ha, hj] at e
      rw [ha] at hd
      rw [hj] at hm
      rw [e, flat_get _ _ _ _ _ hd hm, flat_get _ _ _ _ _ hd hm]
      unfold insF setA
      congr 2
      rw [List.getD_eq_getElem?_getD, List.getD_eq_getElem?_getD, List.getElem?_set]
      by_cases hia : i = a
      · subst hia
        rw [if_pos rfl, if_pos hi]
        rw [List.getD_eq_getElem?_getD, List.getElem?_eq_getElem hi]
        rcases (by omega : j = 0 ∨ j = 2 ∨ j = 3 ∨ j = 4 ∨ j = 5 ∨ j = 6 ∨ j = 7 ∨ j = 8 ∨ j = 9 ∨ j = 10) with rfl | rfl | rfl | rfl | rfl | rfl | rfl | rfl | rfl | rfl <;> rfl
      · rw [if_neg hia]
  · rw [List.getElem?_eq_none (by rw [List.length_set, flat_length]; exact hq), List.getElem?_eq_none (by rw [flat_length]; exact hq)]
theorem setA_R {l : List Ins} {i : Nat} {t : Int} (h : ∀ x ∈ l, InR x) (ht : R64 t) (hi : i < l.length) : ∀ x ∈ setA l i t, InR x := fun x hx => by
  unfold setA at hx
  rcases List.mem_or_eq_of_mem_set hx with hx | rfl
  · exact h x hx
  · have hm : InR (l.getD i i0) := h _ (by rw [List.getD_eq_getElem?_getD, List.getElem?_eq_getElem hi]; exact List.getElem_mem hi)
    intro j
    match j with
    | 0 => exact hm 0
    | 1 => exact ht
    | 2 => exact hm 2
    | 3 => exact hm 3
    | 4 => exact hm 4
    | 5 => exact hm 5
    | 6 => exact hm 6
    | 7 => exact hm 7
    | 8 => exact hm 8
    | 9 => exact hm 9
    | j + 10 => exact hm (j + 10)
theorem finG_R {l : List Ins} {t : Int} (h : ∀ x ∈ l, InR x) (ht : R64 t) : ∀ (k : Nat) (a : Int), R64 a → R64 (finG l t k a)
  | 0, a, ha => by
    unfold finG
    split
    · exact ht
    · exact ha
  | k + 1, a, ha => by
    unfold finG
    split
    · exact ha
    · rename_i hc
      refine finG_R h ht k _ ?_
      have hlt : a.toNat < l.length := by omega
      have : InR (l.getD a.toNat i0) := h _ (by rw [List.getD_eq_getElem?_getD, List.getElem?_eq_getElem hlt]; exact List.getElem_mem hlt)
      exact this 1

set_option maxHeartbeats 8000000 in
theorem pe_apply0 (v sv : Value) (l : List Ins) (bs : List Bool) (i : Nat) (w : World) (hv : InsAt w v l) (hs : BoolsAt w sv bs) (hi : i < l.length) (hb : bs.length = l.length) (hlen : l.length ≤ 100000) (q : Bool) (hq : (!bs.getD i false) = q) :
    Calls Tryd.prog 28 #[.int .i64 0, v, sv, .int .i64 i] w fun e w' => ∃ v', e = .returned (.tuple #[v', .bool q]) ∧ Up w w' ∧ (q = true → InsAt w' v' (remF l i)) := by
  have HV := Lib.hid hv
  obtain ⟨⟨a, cap, rfl⟩, hmax⟩ := hv.slice
  obtain ⟨n, hn⟩ : ∃ n, l.length = n := ⟨_, rfl⟩
  rw [hn] at hmax hi hlen hb ⊢
  have HN := Lib.hid hn
  obtain ⟨⟨sa, scap, rfl⟩, smax⟩ := hs.slice
  rw [hb] at smax ⊢
  obtain ⟨x, hx⟩ : ∃ x, l.getD i i0 = x := ⟨_, rfl⟩
  obtain ⟨bl, off, ha, hbl, ⟨k0, k1, k2, k3, k4, k5, k6, k7, k8, k9, k10⟩, hxr⟩ := HV.out.elem (Up.refl w) i (by rw [HN.out]; exact hi) HN.out (by rw [HN.out]) hx
  subst ha
  have HX := Lib.hid hx
  have HVN : Hid (InsAt w (.slice (some ⟨bl, off, none⟩) n cap) l) := Lib.hid (by have := HV.out; rw [HN.out] at this; exact this)
  have HLN : Hid (l.length ≤ 100000) := Lib.hid (by rw [HN.out]; exact hlen)
  obtain ⟨sb, so, hsa, hsb, s0⟩ := hs.elem (Up.refl w) i (by omega) hb (by rw [hb])
  subst hsa
  obtain ⟨b0, hb0⟩ : ∃ b0, bs.getD i false = b0 := ⟨_, rfl⟩
  rw [hb0] at s0 hq
  subst hq
  have HXR := Lib.hid hxr
  clear hx hv hs hb hn HV hxr
  obtain ⟨op, A, b, c, ⟨n1, d⟩, kd, bi, fr, ro, ov⟩ := x
  dsimp only at k0 k1 k2 k3 k4 k5 k6 k7 k8 k9 k10
  have hiI : (i : Int) < n := by omega
  have hnI : (n : Int) ≤ 100000 := by omega
  have HU : Hid (Up w (w.alloc (.cells #[.int .i64 op, .int .i64 A, .int .i64 b, .int .i64 c, .int .i64 n1, .int .i64 d, .int .i64 kd, .int .i64 bi, .int .i64 fr, .int .i64 ro, .int .i64 ov] 64))) := Lib.hid ((Up.refl w).alloc _)
  have HBX : Hid (BoxI (w.alloc (.cells #[.int .i64 op, .int .i64 A, .int .i64 b, .int .i64 c, .int .i64 n1, .int .i64 d, .int .i64 kd, .int .i64 bi, .int .i64 fr, .int .i64 ro, .int .i64 ov] 64)) w.heap.size ((op, A, b, c, (n1, d), kd, bi, fr, ro, ov) : Ins)) := Lib.hid (BoxI.new w ((op, A, b, c, (n1, d), kd, bi, fr, ro, ov) : Ins) rfl)
  have k0' : (w.alloc (.cells #[.int .i64 op, .int .i64 A, .int .i64 b, .int .i64 c, .int .i64 n1, .int .i64 d, .int .i64 kd, .int .i64 bi, .int .i64 fr, .int .i64 ro, .int .i64 ov] 64)).cell? ⟨sb, so + i, none⟩ = some (.bool b0) := (HU.out.cell _ _ hsb).trans s0
  clear hb0
  cases b0
  · go_enter Tryd.func28, Tryd.ntmps28
    go_wp2_with (go_at_call 43; refine (pe_remove _ l _ _ (HVN.out.up HU.out) (by omega) HLN.out).mono ?_; rintro e y ⟨v2, rfl, hy, hr, -⟩)
    go_ret2
    exact ⟨_, rfl, HU.out.trans hy, fun _ => hr⟩
  · go_enter Tryd.func28, Tryd.ntmps28
    go_wp2
    refine wp_region_ext (by kernel_rfl) (by kernel_rfl) ?_
    repeat (go_big_quiet_step (fail))
    refine wpQuiet_nil ?_
    intro z6 hz6
    go_wp2
    go_ret2
    exact ⟨_, rfl, HU.out.trans hz6, fun h => nomatch h⟩

set_option maxHeartbeats 8000000 in
theorem pe_apply1 (v sv : Value) (l : List Ins) (bs : List Bool) (i : Nat) (w : World) (hv : InsAt w v l) (hs : BoolsAt w sv bs) (hi : i < l.length) (hb : bs.length = l.length) (hlen : l.length ≤ 100000) (q : Bool) (hq : (decide (i + 1 < l.length) && idleB (l.getD i i0) i) = q) :
    Calls Tryd.prog 28 #[.int .i64 1, v, sv, .int .i64 i] w fun e w' => ∃ v', e = .returned (.tuple #[v', .bool q]) ∧ Up w w' ∧ (q = true → InsAt w' v' (remF l i)) := by
  have HV := Lib.hid hv
  obtain ⟨⟨a, cap, rfl⟩, hmax⟩ := hv.slice
  obtain ⟨n, hn⟩ : ∃ n, l.length = n := ⟨_, rfl⟩
  rw [hn] at hmax hi hlen hb ⊢
  have HN := Lib.hid hn
  obtain ⟨⟨sa, scap, rfl⟩, smax⟩ := hs.slice
  rw [hb] at smax ⊢
  obtain ⟨x, hx⟩ : ∃ x, l.getD i i0 = x := ⟨_, rfl⟩
  obtain ⟨bl, off, ha, hbl, ⟨k0, k1, k2, k3, k4, k5, k6, k7, k8, k9, k10⟩, hxr⟩ := HV.out.elem (Up.refl w) i (by rw [HN.out]; exact hi) HN.out (by rw [HN.out]) hx
  subst ha
  have HX := Lib.hid hx
  have HVN : Hid (InsAt w (.slice (some ⟨bl, off, none⟩) n cap) l) := Lib.hid (by have := HV.out; rw [HN.out] at this; exact this)
  have HLN : Hid (l.length ≤ 100000) := Lib.hid (by rw [HN.out]; exact hlen)
  rw [hn, hx] at hq
  have HXR := Lib.hid hxr
  clear hx hv hs hb hn HV hxr
  obtain ⟨op, A, b, c, ⟨n1, d⟩, kd, bi, fr, ro, ov⟩ := x
  dsimp only at k0 k1 k2 k3 k4 k5 k6 k7 k8 k9 k10
  have hiI : (i : Int) < n := by omega
  have hnI : (n : Int) ≤ 100000 := by omega
  have HU : Hid (Up w (w.alloc (.cells #[.int .i64 op, .int .i64 A, .int .i64 b, .int .i64 c, .int .i64 n1, .int .i64 d, .int .i64 kd, .int .i64 bi, .int .i64 fr, .int .i64 ro, .int .i64 ov] 64))) := Lib.hid ((Up.refl w).alloc _)
  have HBX : Hid (BoxI (w.alloc (.cells #[.int .i64 op, .int .i64 A, .int .i64 b, .int .i64 c, .int .i64 n1, .int .i64 d, .int .i64 kd, .int .i64 bi, .int .i64 fr, .int .i64 ro, .int .i64 ov] 64)) w.heap.size ((op, A, b, c, (n1, d), kd, bi, fr, ro, ov) : Ins)) := Lib.hid (BoxI.new w ((op, A, b, c, (n1, d), kd, bi, fr, ro, ov) : Ins) rfl)
  have HQ := Lib.hid hq
  clear hq
  by_cases hl : i + 1 < n
  · have hlI : (i : Int) < n - 1 := by omega
    have HID : Hid (∀ w, Calls Tryd.prog 44 #[insV ((op, A, b, c, (n1, d), kd, bi, fr, ro, ov) : Ins), .int .i64 i] w fun e' w' => e' = .returned (.bool q) ∧ Up w w') := Lib.hid (fun w => pe_idle _ _ (by omega) _ (by rw [← HQ.out]; simp [hl]) w)
    dsimp only [insV] at HID
    clear HQ
    cases q
    · go_enter Tryd.func28, Tryd.ntmps28
      go_wp2_with (go_at_call 44; refine (HID.out _).mono ?_; rintro e z ⟨rfl, hz⟩)
      refine wp_region_ext (by kernel_rfl) (by kernel_rfl) ?_
      repeat (go_big_quiet_step (fail))
      refine wpQuiet_nil ?_
      intro z6 hz6
      go_wp2
      go_ret2
      exact ⟨_, rfl, HU.out.trans (hz.trans hz6), fun h => nomatch h⟩
    · go_enter Tryd.func28, Tryd.ntmps28
      go_wp2_with (first | (go_at_call 44; refine (HID.out _).mono ?_; rintro e z ⟨rfl, hz⟩; replace HU := Lib.hid (HU.out.trans hz); clear hz HBX) | (go_at_call 43; refine (pe_remove _ l _ _ (HVN.out.up HU.out) (by omega) HLN.out).mono ?_; rintro e y ⟨v2, rfl, hy, hr, -⟩))
      go_ret2
      exact ⟨_, rfl, HU.out.trans hy, fun _ => hr⟩
  · obtain rfl : q = false := by rw [← HQ.out]; simp [hl]
    have hlI : ¬ (i : Int) < n - 1 := by omega
    go_enter Tryd.func28, Tryd.ntmps28
    go_wp2
    refine wp_region_ext (by kernel_rfl) (by kernel_rfl) ?_
    repeat (go_big_quiet_step (fail))
    refine wpQuiet_nil ?_
    intro z6 hz6
    go_wp2
    go_ret2
    exact ⟨_, rfl, HU.out.trans hz6, fun h => nomatch h⟩

set_option maxHeartbeats 8000000 in
theorem pe_apply2 (v sv : Value) (l : List Ins) (bs : List Bool) (i : Nat) (w : World) (hv : InsAt w v l) (hs : BoolsAt w sv bs) (hi : i < l.length) (hb : bs.length = l.length) (hlen : l.length ≤ 100000) (q : Bool) (hq : (jumpsB (l.getD i i0).1 && decide (finF l (l.getD i i0).2.1 ≠ (l.getD i i0).2.1)) = q) :
    Calls Tryd.prog 28 #[.int .i64 2, v, sv, .int .i64 i] w fun e w' => ∃ v', e = .returned (.tuple #[v', .bool q]) ∧ Up w w' ∧ (q = true → InsAt w' v' (setA l i (finF l (l.getD i i0).2.1))) := by
  obtain ⟨j0, hi0, hz0, hz1, hz2⟩ := info_parts ins_info
  have HV := Lib.hid hv
  obtain ⟨⟨a, cap, rfl⟩, hmax⟩ := hv.slice
  obtain ⟨n, hn⟩ : ∃ n, l.length = n := ⟨_, rfl⟩
  rw [hn] at hmax hi hlen hb ⊢
  have HN := Lib.hid hn
  obtain ⟨⟨sa, scap, rfl⟩, smax⟩ := hs.slice
  rw [hb] at smax ⊢
  obtain ⟨x, hx⟩ : ∃ x, l.getD i i0 = x := ⟨_, rfl⟩
  obtain ⟨bl, off, ha, hbl, ⟨k0, k1, k2, k3, k4, k5, k6, k7, k8, k9, k10⟩, hxr⟩ := HV.out.elem (Up.refl w) i (by rw [HN.out]; exact hi) HN.out (by rw [HN.out]) hx
  subst ha
  have HX := Lib.hid hx
  have HVN : Hid (InsAt w (.slice (some ⟨bl, off, none⟩) n cap) l) := Lib.hid (by have := HV.out; rw [HN.out] at this; exact this)
  have HLN : Hid (l.length ≤ 100000) := Lib.hid (by rw [HN.out]; exact hlen)
  rw [hx] at hq ⊢
  have HXR := Lib.hid hxr
  clear hx hv hs hb hn HV hxr
  obtain ⟨op, A, b, c, ⟨n1, d⟩, kd, bi, fr, ro, ov⟩ := x
  dsimp only at k0 k1 k2 k3 k4 k5 k6 k7 k8 k9 k10
  have hiI : (i : Int) < n := by omega
  have hnI : (n : Int) ≤ 100000 := by omega
  have HU : Hid (Up w (w.alloc (.cells #[.int .i64 op, .int .i64 A, .int .i64 b, .int .i64 c, .int .i64 n1, .int .i64 d, .int .i64 kd, .int .i64 bi, .int .i64 fr, .int .i64 ro, .int .i64 ov] 64))) := Lib.hid ((Up.refl w).alloc _)
  have HBX : Hid (BoxI (w.alloc (.cells #[.int .i64 op, .int .i64 A, .int .i64 b, .int .i64 c, .int .i64 n1, .int .i64 d, .int .i64 kd, .int .i64 bi, .int .i64 fr, .int .i64 ro, .int .i64 ov] 64)) w.heap.size ((op, A, b, c, (n1, d), kd, bi, fr, ro, ov) : Ins)) := Lib.hid (BoxI.new w ((op, A, b, c, (n1, d), kd, bi, fr, ro, ov) : Ins) rfl)
  dsimp only at hq ⊢
  obtain ⟨t, ht⟩ : ∃ t, finF l A = t := ⟨_, rfl⟩
  obtain ⟨jj, hj⟩ : ∃ jj, jumpsB op = jj := ⟨_, rfl⟩
  have HFI : Hid (∀ w', Up w w' → Calls Tryd.prog 46 #[.slice (some ⟨bl, off, none⟩) n cap, .int .i64 A] w' fun e x => e = .returned (.int .i64 t) ∧ Up w' x) := Lib.hid (fun w' hu => (pe_final _ l A w' (HVN.out.up hu)).mono fun e x h => ⟨by rw [h.1, ht], by rw [h.2]; exact Up.refl _⟩)
  have HFE : Hid (∀ w', Up w w' → Calls Tryd.prog 46 #[.slice (some ⟨bl, off, none⟩) n cap, .int .i64 A] w' fun e x => e = .returned (.int .i64 t) ∧ x = w') := Lib.hid (fun w' hu => (pe_final _ l A w' (HVN.out.up hu)).mono fun e x h => ⟨by rw [h.1, ht], h.2⟩)
  have HJJ : Hid (∀ w', Calls Tryd.prog 45 #[.int .i64 op] w' fun e x => e = .returned (.bool jj) ∧ Up w' x) := Lib.hid (fun w' => (pe_jumps _ _ hj w').mono fun e x h => ⟨h.1, by rw [h.2]; exact Up.refl _⟩)
  have HSL : Hid (SlAt w (.slice (some ⟨bl, off, none⟩) n cap) n 11 (insF l)) := Lib.hid (by have := HVN.out.1; rw [HN.out] at this; exact this)
  have HRT : Hid (R64 t) := Lib.hid (by rw [← ht]; exact finG_R HVN.out.2 (HXR.out 1) _ _ (HXR.out 1))
  rw [ht, hj] at hq
  rw [ht]
  clear ht hj
  obtain ⟨x0', x1, -⟩ := HBX.out.all
  cases jj
  · obtain rfl : q = false := by rw [← hq]; rfl
    go_enter Tryd.func28, Tryd.ntmps28
    go_wp2
    refine wp_region_ext (by kernel_rfl) (by kernel_rfl) ?_
    repeat (go_big_quiet_step (first | (go_at_call 45; exact Calls.ext_of (HJJ.out _)) | (go_at_call 46; exact Calls.ext_of (HFI.out _ (HU.out.trans (Ext.up _))))))
    refine wpQuiet_nil ?_
    intro z6 hz6
    go_wp2
    go_ret2
    exact ⟨_, rfl, HU.out.trans hz6, fun h => nomatch h⟩
  · by_cases hta : t = A
    · subst hta
      obtain rfl : q = false := by rw [← hq]; simp
      go_enter Tryd.func28, Tryd.ntmps28
      go_wp2
      refine wp_region_ext (by kernel_rfl) (by kernel_rfl) ?_
      repeat (go_big_quiet_step (first | (go_at_call 45; exact Calls.ext_of (HJJ.out _)) | (go_at_call 46; exact Calls.ext_of (HFI.out _ (HU.out.trans (Ext.up _))))))
      refine wpQuiet_nil ?_
      intro z6 hz6
      go_wp2
      go_ret2
      exact ⟨_, rfl, HU.out.trans hz6, fun h => nomatch h⟩
    · obtain rfl : q = true := by rw [← hq]; simp [hta]
      go_enter Tryd.func28, Tryd.ntmps28
      go_wp2
      refine wp_region_ext (by kernel_rfl) (by kernel_rfl) ?_
      repeat (go_big_quiet_step (first | (go_at_call 45; exact Calls.ext_of (HJJ.out _)) | (go_at_call 46; exact Calls.ext_of (HFI.out _ (HU.out.trans (Ext.up _))))))
      refine wpQuiet_nil ?_
      intro z6 hz6
      have HU6 := Lib.hid (HU.out.trans hz6)
      have HX6 := Lib.hid (HBX.out.up hz6)
      obtain ⟨x0', x1, -⟩ := HX6.out.all
      clear hz6 k0 k1 k2 k3 k4 k5 k6 k7 k8 k9 k10
      go_wp2_with (at_builtin; refine wpList_append_sl _ rfl _ _ 22 rfl w.heap.size 64 j0 _ 11 88 Tryd.underlying22 hi0 hz0 hz1 hz2 rfl (by decide) (.slice none 0 0) 0 [] rfl (World.ownsRow_nil _ _ _ _) (.slice (some ⟨bl, off, none⟩) n cap) n (insF l) rfl ((HSL.out).up HU6.out) (fun i j _ _ => insF_one _ _ _) (by rw [maxLen]; omega) (by omega) HU6.out.size ?_; rintro v' w1 ho1 hg1 - -; have HU1 := Lib.hid (grown_up hg1 (fun k hk => by cases hk)); have HO1 := Lib.hid ho1; clear ho1 hg1; rw [Nat.zero_add, List.nil_append] at HO1; have HX1 := Lib.hid (HX6.out.up HU1.out); obtain ⟨x0', x1, -⟩ := HX1.out.all; obtain ⟨g, gc, rfl, hgB, hgs, hgc, hgf, hgcell⟩ := own_get HO1.out (by omega); have hgf1 := hgf (i * 11 + 1); have hgc1 : w1.cell? ⟨g, i * 11 + 1, none⟩ = some (.int .i64 A) := by have := hgcell (i * 11 + 1) _ (flat_get _ _ _ _ _ hi (by omega)); (unfold insF at this); rw [HX.out] at this; exact this)
      refine (HFE.out _ (HU6.out.trans HU1.out)).mono ?_
      rintro e x ⟨rfl, hx⟩
      replace hx := hx.symm
      subst hx
      have HO2 : Hid ((w1.setCell ⟨g, i * 11 + 1, none⟩ (.int .i64 t)).ownsRow w.heap.size 64 11 (.slice (some ⟨g, 0, none⟩) n gc) n (flat (insF (setA l i t)) n 11)) := Lib.hid (by
        have := own_set HO1.out (i * 11 + 1) (by rw [flat_length]; omega) (.int .i64 t)
        rw [ins_set l i n HN.out hi] at this; exact this)
      have HU2 : Hid (Up w (w1.setCell ⟨g, i * 11 + 1, none⟩ (.int .i64 t))) := Lib.hid ((HU6.out.trans HU1.out).setCell (p := ⟨g, i * 11 + 1, none⟩) (by show w.heap.size ≤ g; omega) (.int .i64 t))
      go_wp2
      go_ret2
      exact ⟨_, rfl, HU2.out, fun _ => InsAt.of_own HO2.out (by rw [setA_len, HN.out]) (by omega) (setA_R HVN.out.2 HRT.out (by rw [HN.out]; exact hi))⟩
end Go.Proofs.YtbpojmhgifgfdaaDoor
