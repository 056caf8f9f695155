/-
  The reference 04: Cast. Printed by mkPvG.py.
-/
import Derived.Test.YtbpojmhgifgfdaaDoorPvF
namespace Go.Proofs.YtbpojmhgifgfdaaDoor
open Go.ChangeShapes Go.WideShapes Go.ChangeAt Go.RowKit
set_option linter.unusedVariables false
set_option linter.unusedSimpArgs false
set_option maxRecDepth 100000

theorem stF_bd (fr : Int) (h1 : 0 ≤ fr) (h2 : fr ≤ 30) : 1 ≤ stF fr ∧ stF fr ≤ 1073741824 := by
  have hb : fr = 0 ∨ fr = 1 ∨ fr = 2 ∨ fr = 3 ∨ fr = 4 ∨ fr = 5 ∨ fr = 6 ∨ fr = 7 ∨ fr = 8 ∨ fr = 9 ∨ fr = 10 ∨ fr = 11 ∨ fr = 12 ∨ fr = 13 ∨ fr = 14 ∨ fr = 15 ∨ fr = 16 ∨ fr = 17 ∨ fr = 18 ∨ fr = 19 ∨ fr = 20 ∨ fr = 21 ∨ fr = 22 ∨ fr = 23 ∨ fr = 24 ∨ fr = 25 ∨ fr = 26 ∨ fr = 27 ∨ fr = 28 ∨ fr = 29 ∨ fr = 30 := by omega
  rcases hb with rfl | rfl | rfl | rfl | rfl | rfl | rfl | rfl | rfl | rfl | rfl | rfl | rfl | rfl | rfl | rfl | rfl | rfl | rfl | rfl | rfl | rfl | rfl | rfl | rfl | rfl | rfl | rfl | rfl | rfl | rfl
  all_goals decide +kernel
theorem den_aux (n s g x y : Int) (h5 : ¬ s = 0) (hms : mag s = s) (hx : s / g = x) (hy : mag n / g = y) (h6 : ¬ (2147483647 < y ∨ 2147483647 < x)) (h7 : 1 ≤ x) :
    1 ≤ (if s = 0 then ((0, 0, 4) : Int × Int × Int) else if 2147483647 < mag n / g ∨ 2147483647 < mag s / g then (0, 0, 3) else if decide (n < 0) != decide (s < 0) then (-(mag n / g), mag s / g, 0) else (mag n / g, mag s / g, 0)).2.1 := by
  rw [if_neg h5, hms, hx, hy, if_neg h6]
  split <;> exact h7
theorem newF_den (n s : Int) (h1 : 1 ≤ s) (h2 : s ≤ 2147483647) (h3 : -2147483647 ≤ n) (h4 : n ≤ 2147483647) : 1 ≤ (newF n s).2.1 := by
  have hg : (0 : Int) < (Int.gcd n s : Int) := by have := Int.gcd_pos_of_ne_zero_right n (show s ≠ 0 by omega); omega
  have hms : mag s = s := by unfold mag; rw [if_neg (by omega)]
  have hmn : 0 ≤ mag n ∧ mag n ≤ 2147483647 := by unfold mag; split <;> omega
  have hq1 : mag n / (Int.gcd n s : Int) ≤ mag n := Int.ediv_le_self _ hmn.1
  have hq2 : s / (Int.gcd n s : Int) ≤ s := Int.ediv_le_self _ (by omega)
  have hd : (Int.gcd n s : Int) ∣ s := Int.gcd_dvd_right ..
  have hle : (Int.gcd n s : Int) ≤ s := Int.le_of_dvd (by omega) hd
  have hq3 : 1 ≤ s / (Int.gcd n s : Int) := by
    rw [Int.le_ediv_iff_mul_le hg]; omega
  have h5 : ¬ s = 0 := by omega
  unfold newF
  generalize (Int.gcd n s : Int) = g at *
  obtain ⟨x, hx⟩ : ∃ x, s / g = x := ⟨_, rfl⟩
  obtain ⟨y, hy⟩ : ∃ y, mag n / g = y := ⟨_, rfl⟩
  rw [hx] at hq2 hq3
  rw [hy] at hq1
  have h6 : ¬ (2147483647 < y ∨ 2147483647 < x) := by omega
  exact den_aux n s g x y h5 hms hx hy h6 hq3
theorem ne_of_pos (x : Int) (h : 1 ≤ x) : ¬ x = 0 := by omega
theorem value_den (t : Typ) (ht : typB t = true) (n d : Int) (hv : valT t n d = true) : ¬ (valueF t n d).2 = 0 := by
  obtain ⟨kd, bi, fr, ro, ov⟩ := t
  unfold valueF
  by_cases h2 : kd = 2
  · subst h2
    rw [if_pos rfl]
    obtain ⟨g1, g2, g3, g4⟩ := typB_fix ht
    obtain ⟨p1, p2⟩ := pow_bd2 bi g1 g2
    obtain ⟨s1, s2⟩ := stF_bd fr g3 g4
    unfold valT at hv
    rw [if_pos rfl] at hv
    have hv2 := of_decide_eq_true hv
    dsimp only at hv2
    generalize (2 : Int) ^ (bi.toNat - 1) = P at *
    generalize hss : stF fr = s at *
    clear hv ht
    obtain ⟨v1, v2, v3⟩ := hv2
    have h9 := newF_den n s s1 (by omega) (by omega) (by omega)
    obtain ⟨⟨u1, u2, u3⟩, hu⟩ : ∃ u, newF n s = u := ⟨_, rfl⟩
    rw [hu] at h9
    have hw : ¬ ((u1, u2) : Int × Int).2 = 0 := ne_of_pos u2 h9
    rw [hu]
    exact hw
  · rw [if_neg h2]
    dsimp only
    unfold valT at hv
    rw [if_neg h2] at hv
    by_cases h3 : kd = 3
    · rw [if_pos h3] at hv
      simp at hv
      omega
    · rw [if_neg h3] at hv
      simp [validF] at hv
      omega
def castF (f t : Typ) (n d : Int) : Int × Int × Int :=
  if typB f = false ∨ typB t = false then (0, 0, 10) else if valT f n d = false then (0, 0, 1)
  else if t.1 = 3 then (flF (valueF f n d).1 (valueF f n d).2, 1, 0)
  else if t.1 = 2 then (fitF t.2.1 t.2.2.2.2 (rdF (wrap64 ((valueF f n d).1 * stF t.2.2.1)) (valueF f n d).2 t.2.2.2.1), 1, 0)
  else ((valueF f n d).1, (valueF f n d).2, 0)
set_option maxHeartbeats 8000000 in
theorem r04_Cast (f t : Typ) (n d : Int) (hn : R64 n) (r : Int × Int × Int) (hr : castF f t n d = r) (w : World) :
    Calls Tryd.prog 66 #[typV f, typV t, .agg #[.int .i64 n, .int .i64 d]] w fun e w' => e = .returned (.tuple #[.agg #[.int .i64 r.1, .int .i64 r.2.1], .int .i64 r.2.2]) ∧ Up w w' := by
  obtain ⟨fb, hfb⟩ : ∃ b, typB f = b := ⟨_, rfl⟩
  obtain ⟨tb, htb⟩ : ∃ b, typB t = b := ⟨_, rfl⟩
  obtain ⟨va, hva⟩ : ∃ v, valT f n d = v := ⟨_, rfl⟩
  obtain ⟨⟨xn, xd⟩, hxx⟩ : ∃ x, valueF f n d = x := ⟨_, rfl⟩
  have HT := Lib.hid (fun w => base_Type f fb hfb w)
  have HT2 := Lib.hid (fun w => base_Type t tb htb w)
  have HVA := Lib.hid (fun (h : fb = true) w => base_Val f (hfb.trans h) n d hn va hva w)
  have HVL := Lib.hid (fun (h : fb = true) w => r04_Value f (hfb.trans h) n d hn (xn, xd) hxx w)
  have HXD : Hid (fb = true → va = true → ¬ xd = 0) := Lib.hid (fun h1 h2 => by have := value_den f (hfb.trans h1) n d (hva.trans h2); rw [hxx] at this; exact this)
  have HTF : Hid (tb = true → t.1 = 2 → 2 ≤ t.2.1 ∧ t.2.1 ≤ 31 ∧ 0 ≤ t.2.2.1 ∧ t.2.2.1 ≤ 30) := Lib.hid (fun h1 h2 => by
    obtain ⟨kd, bi, fr, ro, ov⟩ := t
    obtain rfl : kd = 2 := h2
    exact typB_fix (htb.trans h1))
  unfold castF at hr
  rw [hfb, htb, hva, hxx] at hr
  have HR := Lib.hid hr
  clear hr hfb htb hva hxx hn
  obtain ⟨kd, bi, fr, ro, ov⟩ := f
  obtain ⟨kd2, bi2, fr2, ro2, ov2⟩ := t
  dsimp only [typV] at HT HT2 HVA HVL HTF HR ⊢
  have HU : Hid (Up w ((((w.alloc (.cells #[.int .i64 kd, .int .i64 bi, .int .i64 fr, .int .i64 ro, .int .i64 ov] 62)).alloc (.cells #[.int .i64 kd2, .int .i64 bi2, .int .i64 fr2, .int .i64 ro2, .int .i64 ov2] 62)).alloc (.cells #[.int .i64 n, .int .i64 d] 60)).alloc (.cells #[.int .i64 0, .int .i64 0] 60))) := Lib.hid (((((Up.refl w).alloc _).alloc _).alloc _).alloc _)
  have HU0 := HU
  have B0 : Hid (BoxC ((((w.alloc (.cells #[.int .i64 kd, .int .i64 bi, .int .i64 fr, .int .i64 ro, .int .i64 ov] 62)).alloc (.cells #[.int .i64 kd2, .int .i64 bi2, .int .i64 fr2, .int .i64 ro2, .int .i64 ov2] 62)).alloc (.cells #[.int .i64 n, .int .i64 d] 60)).alloc (.cells #[.int .i64 0, .int .i64 0] 60)) w.heap.size 62 #[.int .i64 kd, .int .i64 bi, .int .i64 fr, .int .i64 ro, .int .i64 ov]) := Lib.hid ((BoxC.new w _ _).up ((((Up.refl _).alloc _).alloc _).alloc _))
  have B1 : Hid (BoxC ((((w.alloc (.cells #[.int .i64 kd, .int .i64 bi, .int .i64 fr, .int .i64 ro, .int .i64 ov] 62)).alloc (.cells #[.int .i64 kd2, .int .i64 bi2, .int .i64 fr2, .int .i64 ro2, .int .i64 ov2] 62)).alloc (.cells #[.int .i64 n, .int .i64 d] 60)).alloc (.cells #[.int .i64 0, .int .i64 0] 60)) (w.heap.size + 1) 62 #[.int .i64 kd2, .int .i64 bi2, .int .i64 fr2, .int .i64 ro2, .int .i64 ov2]) := Lib.hid ((BoxC.new2 w _ _ _).up (((Up.refl _).alloc _).alloc _))
  have B2 : Hid (BoxC ((((w.alloc (.cells #[.int .i64 kd, .int .i64 bi, .int .i64 fr, .int .i64 ro, .int .i64 ov] 62)).alloc (.cells #[.int .i64 kd2, .int .i64 bi2, .int .i64 fr2, .int .i64 ro2, .int .i64 ov2] 62)).alloc (.cells #[.int .i64 n, .int .i64 d] 60)).alloc (.cells #[.int .i64 0, .int .i64 0] 60)) (w.heap.size + 2) 60 #[.int .i64 n, .int .i64 d]) := Lib.hid ((BoxC.new3 w _ _ _ _).up ((Up.refl _).alloc _))
  have B3 : Hid (BoxC ((((w.alloc (.cells #[.int .i64 kd, .int .i64 bi, .int .i64 fr, .int .i64 ro, .int .i64 ov] 62)).alloc (.cells #[.int .i64 kd2, .int .i64 bi2, .int .i64 fr2, .int .i64 ro2, .int .i64 ov2] 62)).alloc (.cells #[.int .i64 n, .int .i64 d] 60)).alloc (.cells #[.int .i64 0, .int .i64 0] 60)) (w.heap.size + 3) 60 #[.int .i64 0, .int .i64 0]) := Lib.hid (BoxC.new4 w _ _ _ _ _)
  cases fb
  · obtain rfl : r = (0, 0, 10) := by have := HR.out; rw [if_pos (.inl rfl)] at this; exact this.symm
    go_enter Tryd.func66, Tryd.ntmps66
    go_wp2_with (first | (go_at_call 34; (first | (with_reducible refine (HT.out _).mono ?_) | (with_reducible refine (HT2.out _).mono ?_)); rintro e x ⟨rfl, hx⟩; replace HU := Lib.hid (HU.out.trans hx); replace B0 := Lib.hid (B0.out.up hx); replace B1 := Lib.hid (B1.out.up hx); replace B2 := Lib.hid (B2.out.up hx); replace B3 := Lib.hid (B3.out.up hx); clear hx; obtain ⟨t0, t1, t2, t3, t4⟩ := B0.out.five; obtain ⟨s0', s1, s2, s3, s4⟩ := B1.out.five; obtain ⟨a0, a1⟩ := B2.out.two; obtain ⟨z0, z1⟩ := B3.out.two; have zf := B3.out.frozen; have hl3 := B3.out.lt; have hl1 := B1.out.lt))
    all_goals
      refine bodyPost_ret (v := .tuple #[.agg #[.int .i64 0, .int .i64 0], .int .i64 10]) (by simp [results, Tryd.results66, go_sem, *]) rfl ?_
      first
        | exact ⟨rfl, (HU.out.setCell (p := ⟨w.heap.size + 3, 0, none⟩) (by show w.heap.size ≤ w.heap.size + 3; omega) _).setCell (p := ⟨w.heap.size + 3, 1, none⟩) (by show w.heap.size ≤ w.heap.size + 3; omega) _⟩
        | exact ⟨rfl, ((HU0.out.setCell (p := ⟨w.heap.size + 3, 0, none⟩) (by show w.heap.size ≤ w.heap.size + 3; omega) _).setCell (p := ⟨w.heap.size + 3, 1, none⟩) (by show w.heap.size ≤ w.heap.size + 3; omega) _).alloc _⟩
  cases tb
  · obtain rfl : r = (0, 0, 10) := by have := HR.out; rw [if_pos (.inr rfl)] at this; exact this.symm
    go_enter Tryd.func66, Tryd.ntmps66
    go_wp2_with (first | (go_at_call 34; (first | (with_reducible refine (HT.out _).mono ?_) | (with_reducible refine (HT2.out _).mono ?_)); rintro e x ⟨rfl, hx⟩; replace HU := Lib.hid (HU.out.trans hx); replace B0 := Lib.hid (B0.out.up hx); replace B1 := Lib.hid (B1.out.up hx); replace B2 := Lib.hid (B2.out.up hx); replace B3 := Lib.hid (B3.out.up hx); clear hx; obtain ⟨t0, t1, t2, t3, t4⟩ := B0.out.five; obtain ⟨s0', s1, s2, s3, s4⟩ := B1.out.five; obtain ⟨a0, a1⟩ := B2.out.two; obtain ⟨z0, z1⟩ := B3.out.two; have zf := B3.out.frozen; have hl3 := B3.out.lt; have hl1 := B1.out.lt))
    all_goals
      refine bodyPost_ret (v := .tuple #[.agg #[.int .i64 0, .int .i64 0], .int .i64 10]) (by simp [results, Tryd.results66, go_sem, *]) rfl ?_
      first
        | exact ⟨rfl, (HU.out.setCell (p := ⟨w.heap.size + 3, 0, none⟩) (by show w.heap.size ≤ w.heap.size + 3; omega) _).setCell (p := ⟨w.heap.size + 3, 1, none⟩) (by show w.heap.size ≤ w.heap.size + 3; omega) _⟩
        | exact ⟨rfl, ((HU0.out.setCell (p := ⟨w.heap.size + 3, 0, none⟩) (by show w.heap.size ≤ w.heap.size + 3; omega) _).setCell (p := ⟨w.heap.size + 3, 1, none⟩) (by show w.heap.size ≤ w.heap.size + 3; omega) _).alloc _⟩
  have HA := Lib.hid (HVA.out rfl)
  have HV := Lib.hid (HVL.out rfl)
  cases va
  · obtain rfl : r = (0, 0, 1) := by have := HR.out; rw [if_neg (by simp), if_pos rfl] at this; exact this.symm
    go_enter Tryd.func66, Tryd.ntmps66
    go_wp2_with (first | (go_at_call 34; (first | (with_reducible refine (HT.out _).mono ?_) | (with_reducible refine (HT2.out _).mono ?_)); rintro e x ⟨rfl, hx⟩; replace HU := Lib.hid (HU.out.trans hx); replace B0 := Lib.hid (B0.out.up hx); replace B1 := Lib.hid (B1.out.up hx); replace B2 := Lib.hid (B2.out.up hx); replace B3 := Lib.hid (B3.out.up hx); clear hx; obtain ⟨t0, t1, t2, t3, t4⟩ := B0.out.five; obtain ⟨s0', s1, s2, s3, s4⟩ := B1.out.five; obtain ⟨a0, a1⟩ := B2.out.two; obtain ⟨z0, z1⟩ := B3.out.two; have zf := B3.out.frozen; have hl3 := B3.out.lt; have hl1 := B1.out.lt) | (go_at_call 60; refine (HA.out _).mono ?_; rintro e x ⟨rfl, hx⟩; replace HU := Lib.hid (HU.out.trans hx); replace B0 := Lib.hid (B0.out.up hx); replace B1 := Lib.hid (B1.out.up hx); replace B2 := Lib.hid (B2.out.up hx); replace B3 := Lib.hid (B3.out.up hx); clear hx; obtain ⟨t0, t1, t2, t3, t4⟩ := B0.out.five; obtain ⟨s0', s1, s2, s3, s4⟩ := B1.out.five; obtain ⟨a0, a1⟩ := B2.out.two; obtain ⟨z0, z1⟩ := B3.out.two; have zf := B3.out.frozen; have hl3 := B3.out.lt; have hl1 := B1.out.lt))
    all_goals
      refine bodyPost_ret (v := .tuple #[.agg #[.int .i64 0, .int .i64 0], .int .i64 1]) (by simp [results, Tryd.results66, go_sem, *]) rfl ?_
      first
        | exact ⟨rfl, (HU.out.setCell (p := ⟨w.heap.size + 3, 0, none⟩) (by show w.heap.size ≤ w.heap.size + 3; omega) _).setCell (p := ⟨w.heap.size + 3, 1, none⟩) (by show w.heap.size ≤ w.heap.size + 3; omega) _⟩
        | exact ⟨rfl, ((HU0.out.setCell (p := ⟨w.heap.size + 3, 0, none⟩) (by show w.heap.size ≤ w.heap.size + 3; omega) _).setCell (p := ⟨w.heap.size + 3, 1, none⟩) (by show w.heap.size ≤ w.heap.size + 3; omega) _).alloc _⟩
  have HXD1 := Lib.hid (HXD.out rfl rfl)
  have HR1 : Hid ((if kd2 = 3 then (flF xn xd, 1, 0) else if kd2 = 2 then (fitF bi2 ov2 (rdF (wrap64 (xn * stF fr2)) xd ro2), 1, 0) else (xn, xd, 0)) = r) := Lib.hid (by
    have := HR.out; rw [if_neg (by simp), if_neg (by simp)] at this; exact this)
  clear HR
  by_cases h3 : kd2 = 3
  · subst h3
    obtain ⟨fl, hfl⟩ : ∃ q, flF xn xd = q := ⟨_, rfl⟩
    have HF := Lib.hid (fun w => r04_floor xn xd fl hfl HXD1.out w)
    obtain rfl : r = (fl, 1, 0) := by have := HR1.out; rw [if_pos rfl, hfl] at this; exact this.symm
    clear hfl
    go_enter Tryd.func66, Tryd.ntmps66
    go_wp2_with (first | (go_at_call 34; (first | (with_reducible refine (HT.out _).mono ?_) | (with_reducible refine (HT2.out _).mono ?_)); rintro e x ⟨rfl, hx⟩; replace HU := Lib.hid (HU.out.trans hx); replace B0 := Lib.hid (B0.out.up hx); replace B1 := Lib.hid (B1.out.up hx); replace B2 := Lib.hid (B2.out.up hx); replace B3 := Lib.hid (B3.out.up hx); clear hx; obtain ⟨t0, t1, t2, t3, t4⟩ := B0.out.five; obtain ⟨s0', s1, s2, s3, s4⟩ := B1.out.five; obtain ⟨a0, a1⟩ := B2.out.two; obtain ⟨z0, z1⟩ := B3.out.two; have zf := B3.out.frozen; have hl3 := B3.out.lt; have hl1 := B1.out.lt) | (go_at_call 60; refine (HA.out _).mono ?_; rintro e x ⟨rfl, hx⟩; replace HU := Lib.hid (HU.out.trans hx); replace B0 := Lib.hid (B0.out.up hx); replace B1 := Lib.hid (B1.out.up hx); replace B2 := Lib.hid (B2.out.up hx); replace B3 := Lib.hid (B3.out.up hx); clear hx; obtain ⟨t0, t1, t2, t3, t4⟩ := B0.out.five; obtain ⟨s0', s1, s2, s3, s4⟩ := B1.out.five; obtain ⟨a0, a1⟩ := B2.out.two; obtain ⟨z0, z1⟩ := B3.out.two; have zf := B3.out.frozen; have hl3 := B3.out.lt; have hl1 := B1.out.lt))
    refine (HV.out _).mono ?_
    rintro e x ⟨rfl, hx⟩
    replace HU0 := Lib.hid (HU.out.trans hx)
    replace HU := Lib.hid ((HU.out.trans hx).alloc (.cells #[.int .i64 xn, .int .i64 xd] 60))
    replace B0 := Lib.hid ((B0.out.up hx).up ((Up.refl x).alloc (.cells #[.int .i64 xn, .int .i64 xd] 60)))
    have hl3 : w.heap.size + 3 < x.heap.size := (B3.out.up hx).lt
    have B1x := Lib.hid (B1.out.up hx)
    have B3x := Lib.hid (B3.out.up hx)
    replace B1 := Lib.hid ((B1.out.up hx).up ((Up.refl x).alloc (.cells #[.int .i64 xn, .int .i64 xd] 60)))
    replace B3 := Lib.hid ((B3.out.up hx).up ((Up.refl x).alloc (.cells #[.int .i64 xn, .int .i64 xd] 60)))
    have B4 := Lib.hid (BoxC.new x 60 #[.int .i64 xn, .int .i64 xd])
    clear hx
    obtain ⟨s0', s1, s2, s3, s4⟩ := B1x.out.five
    obtain ⟨z0, z1⟩ := B3x.out.two
    have zf := B3x.out.frozen
    have hl1 : w.heap.size + 1 < x.heap.size := by omega
    go_wp2_with (first | (go_at_call 82; refine (HF.out _).mono ?_; rintro e y ⟨rfl, hx⟩; replace HU := Lib.hid (HU.out.trans hx); replace B3 := Lib.hid (B3.out.up hx); clear hx z0 z1 zf; obtain ⟨z0, z1⟩ := B3.out.two; have zf := B3.out.frozen))
    all_goals
      refine bodyPost_ret (v := .tuple #[.agg #[.int .i64 fl, .int .i64 1], .int .i64 0]) (by simp [results, Tryd.results66, go_sem, *]) rfl ?_
      first
        | exact ⟨rfl, (HU.out.setCell (p := ⟨w.heap.size + 3, 0, none⟩) (by show w.heap.size ≤ w.heap.size + 3; omega) _).setCell (p := ⟨w.heap.size + 3, 1, none⟩) (by show w.heap.size ≤ w.heap.size + 3; omega) _⟩
        | exact ⟨rfl, ((HU0.out.setCell (p := ⟨w.heap.size + 3, 0, none⟩) (by show w.heap.size ≤ w.heap.size + 3; omega) _).setCell (p := ⟨w.heap.size + 3, 1, none⟩) (by show w.heap.size ≤ w.heap.size + 3; omega) _).alloc _⟩
  have h3b : (kd2 == 3) = false := by simpa using h3
  by_cases h2 : kd2 = 2
  · subst h2
    obtain ⟨g1, g2, g3, g4⟩ := HTF.out rfl rfl
    obtain ⟨s, hs⟩ : ∃ s, stF fr2 = s := ⟨_, rfl⟩
    obtain ⟨rd, hrd⟩ : ∃ q, rdF (wrap64 (xn * s)) xd ro2 = q := ⟨_, rfl⟩
    obtain ⟨fl, hfl⟩ : ∃ q, fitF bi2 ov2 rd = q := ⟨_, rfl⟩
    have HS := Lib.hid (fun w => r04_step 2 bi2 fr2 ro2 ov2 s hs g3 g4 w)
    have HD := Lib.hid (fun w => r04_round (wrap64 (xn * s)) xd ro2 rd hrd HXD1.out w)
    have HF := Lib.hid (fun w => r04_fit 2 bi2 fr2 ro2 ov2 rd fl hfl g1 g2 w)
    obtain rfl : r = (fl, 1, 0) := by have := HR1.out; rw [if_neg (by decide), if_pos rfl, hs, hrd, hfl] at this; exact this.symm
    clear hfl hrd hs
    go_enter Tryd.func66, Tryd.ntmps66
    go_wp2_with (first | (go_at_call 34; (first | (with_reducible refine (HT.out _).mono ?_) | (with_reducible refine (HT2.out _).mono ?_)); rintro e x ⟨rfl, hx⟩; replace HU := Lib.hid (HU.out.trans hx); replace B0 := Lib.hid (B0.out.up hx); replace B1 := Lib.hid (B1.out.up hx); replace B2 := Lib.hid (B2.out.up hx); replace B3 := Lib.hid (B3.out.up hx); clear hx; obtain ⟨t0, t1, t2, t3, t4⟩ := B0.out.five; obtain ⟨s0', s1, s2, s3, s4⟩ := B1.out.five; obtain ⟨a0, a1⟩ := B2.out.two; obtain ⟨z0, z1⟩ := B3.out.two; have zf := B3.out.frozen; have hl3 := B3.out.lt; have hl1 := B1.out.lt) | (go_at_call 60; refine (HA.out _).mono ?_; rintro e x ⟨rfl, hx⟩; replace HU := Lib.hid (HU.out.trans hx); replace B0 := Lib.hid (B0.out.up hx); replace B1 := Lib.hid (B1.out.up hx); replace B2 := Lib.hid (B2.out.up hx); replace B3 := Lib.hid (B3.out.up hx); clear hx; obtain ⟨t0, t1, t2, t3, t4⟩ := B0.out.five; obtain ⟨s0', s1, s2, s3, s4⟩ := B1.out.five; obtain ⟨a0, a1⟩ := B2.out.two; obtain ⟨z0, z1⟩ := B3.out.two; have zf := B3.out.frozen; have hl3 := B3.out.lt; have hl1 := B1.out.lt))
    refine (HV.out _).mono ?_
    rintro e x ⟨rfl, hx⟩
    replace HU0 := Lib.hid (HU.out.trans hx)
    replace HU := Lib.hid ((HU.out.trans hx).alloc (.cells #[.int .i64 xn, .int .i64 xd] 60))
    replace B0 := Lib.hid ((B0.out.up hx).up ((Up.refl x).alloc (.cells #[.int .i64 xn, .int .i64 xd] 60)))
    have hl3 : w.heap.size + 3 < x.heap.size := (B3.out.up hx).lt
    have B1x := Lib.hid (B1.out.up hx)
    have B3x := Lib.hid (B3.out.up hx)
    replace B1 := Lib.hid ((B1.out.up hx).up ((Up.refl x).alloc (.cells #[.int .i64 xn, .int .i64 xd] 60)))
    replace B3 := Lib.hid ((B3.out.up hx).up ((Up.refl x).alloc (.cells #[.int .i64 xn, .int .i64 xd] 60)))
    have B4 := Lib.hid (BoxC.new x 60 #[.int .i64 xn, .int .i64 xd])
    clear hx
    obtain ⟨s0', s1, s2, s3, s4⟩ := B1x.out.five
    obtain ⟨z0, z1⟩ := B3x.out.two
    have zf := B3x.out.frozen
    have hl1 : w.heap.size + 1 < x.heap.size := by omega
    go_wp2
    refine wp_region_ext_tail 12 (by kernel_rfl) (by kernel_rfl) ?_
    simp only [List.take_succ_cons, List.take_zero, List.drop_succ_cons, List.drop_zero]
    clear s0' s1 s2 s3 s4 z0 z1 zf
    generalize x.alloc (.cells #[.int .i64 xn, .int .i64 xd] 60) = y at *
    obtain ⟨s0', s1, s2, s3, s4⟩ := B1.out.five
    obtain ⟨v0, v1⟩ := B4.out.two
    have hs1 := B1.out.lt
    have hs4 := B4.out.lt
    repeat (go_big_quiet_step (first | (go_at_call 85; exact Calls.ext_of (HS.out _)) | (go_at_call 84; exact Calls.ext_of (HD.out _)) | (go_at_call 83; exact Calls.ext_of (HF.out _))))
    refine wpQuiet_nil ?_
    intro x3 hx3
    replace HU := Lib.hid (HU.out.trans hx3)
    replace B3 := Lib.hid (B3.out.up hx3)
    clear hx3
    obtain ⟨z0, z1⟩ := B3.out.two
    have zf := B3.out.frozen
    go_wp2
    all_goals
      refine bodyPost_ret (v := .tuple #[.agg #[.int .i64 fl, .int .i64 1], .int .i64 0]) (by simp [results, Tryd.results66, go_sem, *]) rfl ?_
      first
        | exact ⟨rfl, (HU.out.setCell (p := ⟨w.heap.size + 3, 0, none⟩) (by show w.heap.size ≤ w.heap.size + 3; omega) _).setCell (p := ⟨w.heap.size + 3, 1, none⟩) (by show w.heap.size ≤ w.heap.size + 3; omega) _⟩
        | exact ⟨rfl, ((HU0.out.setCell (p := ⟨w.heap.size + 3, 0, none⟩) (by show w.heap.size ≤ w.heap.size + 3; omega) _).setCell (p := ⟨w.heap.size + 3, 1, none⟩) (by show w.heap.size ≤ w.heap.size + 3; omega) _).alloc _⟩
  · have h2b : (kd2 == 2) = false := by simpa using h2
    obtain rfl : r = (xn, xd, 0) := by have := HR1.out; rw [if_neg h3, if_neg h2] at this; exact this.symm
    go_enter Tryd.func66, Tryd.ntmps66
    go_wp2_with (first | (go_at_call 34; (first | (with_reducible refine (HT.out _).mono ?_) | (with_reducible refine (HT2.out _).mono ?_)); rintro e x ⟨rfl, hx⟩; replace HU := Lib.hid (HU.out.trans hx); replace B0 := Lib.hid (B0.out.up hx); replace B1 := Lib.hid (B1.out.up hx); replace B2 := Lib.hid (B2.out.up hx); replace B3 := Lib.hid (B3.out.up hx); clear hx; obtain ⟨t0, t1, t2, t3, t4⟩ := B0.out.five; obtain ⟨s0', s1, s2, s3, s4⟩ := B1.out.five; obtain ⟨a0, a1⟩ := B2.out.two; obtain ⟨z0, z1⟩ := B3.out.two; have zf := B3.out.frozen; have hl3 := B3.out.lt; have hl1 := B1.out.lt) | (go_at_call 60; refine (HA.out _).mono ?_; rintro e x ⟨rfl, hx⟩; replace HU := Lib.hid (HU.out.trans hx); replace B0 := Lib.hid (B0.out.up hx); replace B1 := Lib.hid (B1.out.up hx); replace B2 := Lib.hid (B2.out.up hx); replace B3 := Lib.hid (B3.out.up hx); clear hx; obtain ⟨t0, t1, t2, t3, t4⟩ := B0.out.five; obtain ⟨s0', s1, s2, s3, s4⟩ := B1.out.five; obtain ⟨a0, a1⟩ := B2.out.two; obtain ⟨z0, z1⟩ := B3.out.two; have zf := B3.out.frozen; have hl3 := B3.out.lt; have hl1 := B1.out.lt))
    refine (HV.out _).mono ?_
    rintro e x ⟨rfl, hx⟩
    replace HU0 := Lib.hid (HU.out.trans hx)
    replace HU := Lib.hid ((HU.out.trans hx).alloc (.cells #[.int .i64 xn, .int .i64 xd] 60))
    replace B0 := Lib.hid ((B0.out.up hx).up ((Up.refl x).alloc (.cells #[.int .i64 xn, .int .i64 xd] 60)))
    have hl3 : w.heap.size + 3 < x.heap.size := (B3.out.up hx).lt
    have B1x := Lib.hid (B1.out.up hx)
    have B3x := Lib.hid (B3.out.up hx)
    replace B1 := Lib.hid ((B1.out.up hx).up ((Up.refl x).alloc (.cells #[.int .i64 xn, .int .i64 xd] 60)))
    replace B3 := Lib.hid ((B3.out.up hx).up ((Up.refl x).alloc (.cells #[.int .i64 xn, .int .i64 xd] 60)))
    have B4 := Lib.hid (BoxC.new x 60 #[.int .i64 xn, .int .i64 xd])
    clear hx
    obtain ⟨s0', s1, s2, s3, s4⟩ := B1x.out.five
    obtain ⟨z0, z1⟩ := B3x.out.two
    have zf := B3x.out.frozen
    have hl1 : w.heap.size + 1 < x.heap.size := by omega
    go_wp2
    all_goals
      refine bodyPost_ret (v := .tuple #[.agg #[.int .i64 xn, .int .i64 xd], .int .i64 0]) (by simp [results, Tryd.results66, go_sem, *]) rfl ?_
      first
        | exact ⟨rfl, (HU.out.setCell (p := ⟨w.heap.size + 3, 0, none⟩) (by show w.heap.size ≤ w.heap.size + 3; omega) _).setCell (p := ⟨w.heap.size + 3, 1, none⟩) (by show w.heap.size ≤ w.heap.size + 3; omega) _⟩
        | exact ⟨rfl, ((HU0.out.setCell (p := ⟨w.heap.size + 3, 0, none⟩) (by show w.heap.size ≤ w.heap.size + 3; omega) _).setCell (p := ⟨w.heap.size + 3, 1, none⟩) (by show w.heap.size ≤ w.heap.size + 3; omega) _).alloc _⟩

end Go.Proofs.YtbpojmhgifgfdaaDoor
