/-
  Same, same, small. Printed by mkPeSm.py.
-/
import Derived.Test.YtbpojmhgifgfdaaDoorPeD
import Derived.Test.YtbpojmhgifgfdaaDoorPeC
namespace Go.Proofs.YtbpojmhgifgfdaaDoor
open Go.ChangeShapes Go.WideShapes Go.ChangeAt Go.RowKit
set_option linter.unusedVariables false
set_option linter.unusedSimpArgs false
set_option maxRecDepth 100000

theorem SltAt.elem {w wr : World} {v : Value} {l : List Slt} (h : SltAt w v l) (hU : Up w wr) (k : Nat) (hk : k < l.length) {n : Nat} (hn : l.length = n) {a : Option Addr} {cap : Nat} (hv : v = .slice a n cap) {x : Slt} (hx : l.getD k s0 = x) :
    ∃ bl off, a = some ⟨bl, off, none⟩ ∧ bl < w.heap.size ∧ (wr.cell? ⟨bl, off + k * 3, none⟩ = some (.string x.1) ∧ wr.cell? ⟨bl, off + k * 3 + 1, none⟩ = some (.int .i64 x.2.1) ∧ wr.cell? ⟨bl, off + k * 3 + 2, none⟩ = some (.int .i64 x.2.2)) := by
  subst hn
  obtain ⟨⟨a', cap', hv', h0, hc⟩, hmax⟩ := h
  rw [hv'] at hv
  simp only [Value.slice.injEq] at hv
  obtain ⟨rfl, -, rfl⟩ := hv
  cases a' with
  | none => exact absurd (h0 rfl) (by omega)
  | some y =>
    obtain ⟨g1, g2, g3⟩ := hc y rfl (by omega)
    obtain ⟨bl, off, sp⟩ := y
    have g1' : sp = none := g1
    subst g1'
    have g2' : bl < w.heap.size := g2
    have key : ∀ j, j < 3 → wr.cell? ⟨bl, off + k * 3 + j, none⟩ = some (sltF l k j) := fun j hj => (hU.cell _ _ g2').trans (g3 k j hk hj)
    unfold sltF at key
    rw [hx] at key
    exact ⟨bl, off, rfl, g2', key 0 (by omega), key 1 (by omega), key 2 (by omega)⟩

set_option maxHeartbeats 16000000 in
theorem r48_Same (cv tv sv dv uv xv : Value) (words : Int) (l : List Ins) (lt : List Typ) (ls : List Slt) (w : World) (hc : InsAt w cv l) (hd : InsAt w dv l) (ht : TypAt w tv lt) (hu : TypAt w uv lt) (hs : SltAt w sv ls) (hx : SltAt w xv ls)
    (h1 : l.length ≤ 100000) (h2 : lt.length ≤ 100000) (h3 : ls.length ≤ 100000) :
    Calls Tryd.prog 33 #[.agg #[cv, tv, sv, .int .i64 words], dv, uv, xv, .int .i64 words] w fun e w' => e = .returned (.bool true) ∧ Up w w' := by
  have HC := Lib.hid hc
  have HD := Lib.hid hd
  have HT := Lib.hid ht
  have HV := Lib.hid hu
  have HS := Lib.hid hs
  have HX := Lib.hid hx
  obtain ⟨⟨ca, cc, rfl⟩, cm⟩ := hc.slice
  obtain ⟨⟨da, dc, rfl⟩, dm⟩ := hd.slice
  obtain ⟨⟨ta, tc, rfl⟩, tm⟩ := ht.slice
  obtain ⟨⟨ua, uc, rfl⟩, um⟩ := hu.slice
  obtain ⟨⟨sa, sc, rfl⟩, sm⟩ := hs.slice
  obtain ⟨⟨xa, xc, rfl⟩, xm⟩ := hx.slice
  obtain ⟨n, hn⟩ : ∃ n, l.length = n := ⟨_, rfl⟩
  obtain ⟨m, hm⟩ : ∃ m, lt.length = m := ⟨_, rfl⟩
  obtain ⟨k, hk⟩ : ∃ k, ls.length = k := ⟨_, rfl⟩
  rw [hn] at h1 cm
  rw [hm] at h2 tm
  rw [hk] at h3 sm
  rw [hn, hm, hk]
  have HN := Lib.hid hn
  have HM := Lib.hid hm
  have HK := Lib.hid hk
  clear hn hm hk hc hd ht hu hs hx dm um xm
  have hnI : (n : Int) ≤ 100000 := by omega
  have hmI : (m : Int) ≤ 100000 := by omega
  have hkI : (k : Int) ≤ 100000 := by omega
  have HB : Hid (UBox (w.alloc (.cells #[.slice ca n cc, .slice ta m tc, .slice sa k sc, .int .i64 words] 31)) w.heap.size 31 (.slice ca n cc) (.slice ta m tc) (.slice sa k sc) (.int .i64 words)) := Lib.hid (UBox.new w _ _ _ _ _)
  have HU1 : Hid (Up w (w.alloc (.cells #[.slice ca n cc, .slice ta m tc, .slice sa k sc, .int .i64 words] 31))) := Lib.hid ((Up.refl w).alloc _)
  go_enter Tryd.func33, Tryd.ntmps33
  go_wp2
  have HUB := HU1
  have HBB := HB
  go_loopw [11] (fun iv wr => ∃ i : Nat, i ≤ n ∧ iv = .int .i64 i ∧ Up (w.alloc (.cells #[.slice ca n cc, .slice ta m tc, .slice sa k sc, .int .i64 words] 31)) wr) (fun iv _ => n - (intOf iv).toNat)
  case atStart => exact ⟨0, by omega, rfl, Up.refl _⟩
  case round =>
    rename World => wr
    obtain ⟨i, hi, rfl, hU⟩ := hrel
    have HUW := Lib.hid hU
    have HUA := Lib.hid (HUB.out.trans hU)
    have HBW := Lib.hid (HBB.out.up hU)
    clear hU
    obtain ⟨v0, v1, v2, v3⟩ := HBW.out.all
    have hsb := UBox.lt HBW.out
    by_cases hlt : i < n
    · have hltI : (i : Int) < n := by omega
      obtain ⟨y, hy⟩ : ∃ y, l.getD i i0 = y := ⟨_, rfl⟩
      obtain ⟨bl, off, ha, hbl, ⟨k0, k1, k2, k3, k4, k5, k6, k7, k8, k9, k10⟩, -⟩ := HC.out.elem HUA.out i (by rw [HN.out]; exact hlt) HN.out (by rw [HN.out]) hy
      obtain ⟨bm, ofm, hb, hbm, ⟨m0, m1, m2, m3, m4, m5, m6, m7, m8, m9, m10⟩, -⟩ := HD.out.elem HUA.out i (by rw [HN.out]; exact hlt) HN.out (by rw [HN.out]) hy
      subst ha hb
      have hb1 : bl < wr.heap.size := Nat.lt_of_lt_of_le hbl HUA.out.size
      have hb2 : bm < wr.heap.size := Nat.lt_of_lt_of_le hbm HUA.out.size
      clear hy
      obtain ⟨op, A, b, c, ⟨n1, d⟩, kd, bi, fr, ro, ov⟩ := y
      dsimp only at k0 m0 k1 m1 k2 m2 k3 m3 k4 m4 k5 m5 k6 m6 k7 m7 k8 m8 k9 m9 k10 m10
      go_wp2
      refine wp_region_ext (by kernel_rfl) (by kernel_rfl) ?_
      repeat (go_big_quiet_step (fail))
      refine wpQuiet_nil ?_
      intro z hz
      go_wp2
      go_roundw
      case rel => exact ⟨i + 1, by omega, by go_num, HUW.out.trans hz⟩
      case measure => simp [intOf]; omega
    · have hin : n = i := by omega
      subst hin
      go_wp2
      replace HUB := HUA
      replace HBB := HBW
      clear v0 v1 v2 v3 hsb HUW HUA HBW
      obtain ⟨v0, v1, v2, v3⟩ := HBB.out.all
      go_loopw [12] (fun iv wr2 => ∃ i : Nat, i ≤ m ∧ iv = .int .i64 i ∧ Up wr wr2) (fun iv _ => m - (intOf iv).toNat)
      case atStart => exact ⟨0, by omega, rfl, Up.refl _⟩
      case round =>
        rename World => wr2
        obtain ⟨i, hi, rfl, hU⟩ := hrel
        have HUW := Lib.hid hU
        have HUA := Lib.hid (HUB.out.trans hU)
        have HBW := Lib.hid (HBB.out.up hU)
        clear hU
        obtain ⟨v0, v1, v2, v3⟩ := HBW.out.all
        have hsb := UBox.lt HBW.out
        by_cases hlt : i < m
        · have hltI : (i : Int) < m := by omega
          obtain ⟨y, hy⟩ : ∃ y, lt.getD i y0 = y := ⟨_, rfl⟩
          obtain ⟨bl, off, ha, hbl, ⟨k0, k1, k2, k3, k4⟩, -⟩ := HT.out.elem HUA.out i (by rw [HM.out]; exact hlt) HM.out (by rw [HM.out]) hy
          obtain ⟨bm, ofm, hb, hbm, ⟨m0, m1, m2, m3, m4⟩, -⟩ := HV.out.elem HUA.out i (by rw [HM.out]; exact hlt) HM.out (by rw [HM.out]) hy
          subst ha hb
          have hb1 : bl < wr2.heap.size := Nat.lt_of_lt_of_le hbl HUA.out.size
          have hb2 : bm < wr2.heap.size := Nat.lt_of_lt_of_le hbm HUA.out.size
          clear hy
          obtain ⟨a1, a2, a3, a4, a5⟩ := y
          dsimp only at k0 m0 k1 m1 k2 m2 k3 m3 k4 m4
          go_wp2
          refine wp_region_ext (by kernel_rfl) (by kernel_rfl) ?_
          repeat (go_big_quiet_step (fail))
          refine wpQuiet_nil ?_
          intro z hz
          go_wp2
          go_roundw
          case rel => exact ⟨i + 1, by omega, by go_num, HUW.out.trans hz⟩
          case measure => simp [intOf]; omega
        · have hin : m = i := by omega
          subst hin
          go_wp2
          replace HUB := HUA
          replace HBB := HBW
          clear v0 v1 v2 v3 hsb HUW HUA HBW
          obtain ⟨v0, v1, v2, v3⟩ := HBB.out.all
          go_loopw [13] (fun iv wr3 => ∃ i : Nat, i ≤ k ∧ iv = .int .i64 i ∧ Up wr2 wr3) (fun iv _ => k - (intOf iv).toNat)
          case atStart => exact ⟨0, by omega, rfl, Up.refl _⟩
          case round =>
            rename World => wr3
            obtain ⟨i, hi, rfl, hU⟩ := hrel
            have HUW := Lib.hid hU
            have HUA := Lib.hid (HUB.out.trans hU)
            have HBW := Lib.hid (HBB.out.up hU)
            clear hU
            obtain ⟨v0, v1, v2, v3⟩ := HBW.out.all
            have hsb := UBox.lt HBW.out
            by_cases hlt : i < k
            · have hltI : (i : Int) < k := by omega
              obtain ⟨y, hy⟩ : ∃ y, ls.getD i s0 = y := ⟨_, rfl⟩
              obtain ⟨bl, off, ha, hbl, k0, k1, k2⟩ := HS.out.elem HUA.out i (by rw [HK.out]; exact hlt) HK.out (by rw [HK.out]) hy
              obtain ⟨bm, ofm, hb, hbm, m0, m1, m2⟩ := HX.out.elem HUA.out i (by rw [HK.out]; exact hlt) HK.out (by rw [HK.out]) hy
              subst ha hb
              have hb1 : bl < wr3.heap.size := Nat.lt_of_lt_of_le hbl HUA.out.size
              have hb2 : bm < wr3.heap.size := Nat.lt_of_lt_of_le hbm HUA.out.size
              clear hy
              obtain ⟨a1, a2, a3⟩ := y
              dsimp only at k0 m0 k1 m1 k2 m2
              go_wp2
              refine wp_region_ext (by kernel_rfl) (by kernel_rfl) ?_
              repeat (go_big_quiet_step (fail))
              refine wpQuiet_nil ?_
              intro z hz
              go_wp2
              go_roundw
              case rel => exact ⟨i + 1, by omega, by go_num, HUW.out.trans hz⟩
              case measure => simp [intOf]; omega
            · have hin : k = i := by omega
              subst hin
              go_wp2
              go_ret
              exact ⟨rfl, HUA.out⟩

set_option maxHeartbeats 4000000 in
theorem law_same (cv tv sv dv uv xv : Value) (words : Int) (l : List Ins) (lt : List Typ) (ls : List Slt) (w : World) (hc : InsAt w cv l) (hd : InsAt w dv l) (ht : TypAt w tv lt) (hu : TypAt w uv lt) (hs : SltAt w sv ls) (hx : SltAt w xv ls)
    (h1 : l.length ≤ 100000) (h2 : lt.length ≤ 100000) (h3 : ls.length ≤ 100000) :
    Calls Tryd.prog 15 #[.agg #[dv, uv, xv, .int .i64 words], .agg #[cv, tv, sv, .int .i64 words]] w fun e w' => e = .returned (.bool true) ∧ Up w w' := by
  have HSA := Lib.hid (fun w' (h : Up w w') => r48_Same cv tv sv dv uv xv words l lt ls w' (hc.up h) (hd.up h) (ht.up h) (hu.up h) (hs.up h) (hx.up h) h1 h2 h3)
  obtain ⟨⟨ca, cc, rfl⟩, cm⟩ := hc.slice
  obtain ⟨⟨da, dc, rfl⟩, dm⟩ := hd.slice
  obtain ⟨⟨ta, tc, rfl⟩, tm⟩ := ht.slice
  obtain ⟨⟨ua, uc, rfl⟩, um⟩ := hu.slice
  obtain ⟨⟨sa, sc, rfl⟩, sm⟩ := hs.slice
  obtain ⟨⟨xa, xc, rfl⟩, xm⟩ := hx.slice
  obtain ⟨n, hn⟩ : ∃ n, l.length = n := ⟨_, rfl⟩
  obtain ⟨m, hm⟩ : ∃ m, lt.length = m := ⟨_, rfl⟩
  obtain ⟨k, hk⟩ : ∃ k, ls.length = k := ⟨_, rfl⟩
  rw [hn, hm, hk] at HSA
  rw [hn, hm, hk]
  clear hn hm hk hc hd ht hu hs hx h1 h2 h3 cm tm sm dm um xm
  have HU1 : Hid (Up w ((w.alloc (.cells #[.slice da n dc, .slice ua m uc, .slice xa k xc, .int .i64 words] 33)).alloc (.cells #[.slice ca n cc, .slice ta m tc, .slice sa k sc, .int .i64 words] 31))) := Lib.hid (((Up.refl w).alloc _).alloc _)
  go_enter Tryd.func15, Tryd.ntmps15
  go_wp2_with (go_at_call 33; refine (HSA.out _ HU1.out).mono ?_; rintro e z ⟨rfl, hz⟩)
  go_ret
  exact ⟨rfl, HU1.out.trans hz⟩

set_option maxHeartbeats 4000000 in
theorem law_small (cv tv sv : Value) (words most : Int) (l : List Ins) (lt : List Typ) (ls : List Slt) (w : World) (hc : InsAt w cv l) (ht : TypAt w tv lt) (hs : SltAt w sv ls) (r : Bool) (hr : (decide ((l.length : Int) ≤ most) && (decide ((lt.length : Int) ≤ 300) && decide ((ls.length : Int) ≤ 300))) = r) :
    Calls Tryd.prog 12 #[.agg #[cv, tv, sv, .int .i64 words], .int .i64 most] w fun e w' => e = .returned (.bool r) ∧ Up w w' := by
  obtain ⟨⟨ca, cc, rfl⟩, cm⟩ := hc.slice
  obtain ⟨⟨ta, tc, rfl⟩, tm⟩ := ht.slice
  obtain ⟨⟨sa, sc, rfl⟩, sm⟩ := hs.slice
  obtain ⟨n, hn⟩ : ∃ n, l.length = n := ⟨_, rfl⟩
  obtain ⟨m, hm⟩ : ∃ m, lt.length = m := ⟨_, rfl⟩
  obtain ⟨k, hk⟩ : ∃ k, ls.length = k := ⟨_, rfl⟩
  rw [hn, hm, hk] at hr
  rw [hn, hm, hk]
  have HR := Lib.hid hr
  clear hn hm hk hc ht hs cm tm sm hr
  go_enter Tryd.func12, Tryd.ntmps12
  go_wp2
  all_goals try simp only [Bool.not_eq_false', Bool.not_eq_true', bne_iff_ne, ne_eq, bne_eq_false_iff_eq, beq_iff_eq, beq_eq_false_iff_ne, decide_eq_true_eq, decide_eq_false_iff_not] at *
  all_goals
    go_ret
    exact ⟨ret_bool (by rw [← HR.out, Bool.eq_iff_iff]; simp [*]; try omega), (Up.refl w).alloc _⟩
end Go.Proofs.YtbpojmhgifgfdaaDoor
