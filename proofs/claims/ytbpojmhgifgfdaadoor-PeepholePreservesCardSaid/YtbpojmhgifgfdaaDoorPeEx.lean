/-
  Merged by a program (tools/mrg.py): PeSm, PeEx.
-/
import Derived.Test.YtbpojmhgifgfdaaDoorPeC
import Derived.Test.YtbpojmhgifgfdaaDoorPeOp
import Derived.Test.YtbpojmhgifgfdaaDoorPeV

section
namespace Go.Proofs.YtbpojmhgifgfdaaDoor
open Go.ChangeShapes Go.WideShapes Go.ChangeAt Go.RowKit
set_option linter.unusedVariables false
set_option linter.unusedSimpArgs false
set_option maxRecDepth 100000

theorem SltAt.elem {w wr : World} {v : Value} {l : List Slt} (h : SltAt w v l) (hU : Up w wr) (k : Nat) (hk : k < l.length) {n : Nat} (hn : l.length = n) {a : Option Addr} {cap : Nat} (hv : v = .slice a n cap) {x : Slt} (hx : l.getD k s0 = x) :
    ∃ bl off, a = some ⟨bl, off, none⟩ ∧ bl < w.heap.size ∧ (wr.cell? ⟨bl, off + k * 3, none⟩ = some (.string x.1) ∧ wr.cell? ⟨bl, off + k * 3 + 1, none⟩ = some (.int .i64 x.2.1) ∧ wr.cell? ⟨bl, off + k * 3 + 2, none⟩ = some (.int .i64 x.2.2)) := by
  subst hn
  obtain ⟨⟨a', cap', hv', h0, hc⟩, hmax⟩ := h
  rw [hv'] at hv
  simp only [Value.slice.injEq] at hv
  obtain ⟨rfl, -, rfl⟩ := hv
  cases a' with
  | none => exact absurd (h0 rfl) (by omega)
  | some y =>
    obtain ⟨g1, g2, g3⟩ := hc y rfl (by omega)
    obtain ⟨bl, off, sp⟩ := y
    have g1' : sp = none := g1
    subst g1'
    have g2' : bl < w.heap.size := g2
    have key : ∀ j, j < 3 → wr.cell? ⟨bl, off + k * 3 + j, none⟩ = some (sltF l k j) := fun j hj => (hU.cell _ _ g2').trans (g3 k j hk hj)
    unfold sltF at key
    rw [hx] at key
    exact ⟨bl, off, rfl, g2', key 0 (by omega), key 1 (by omega), key 2 (by omega)⟩

set_option maxHeartbeats 16000000 in
theorem r48_Same (cv tv sv dv uv xv : Value) (words : Int) (l : List Ins) (lt : List Typ) (ls : List Slt) (w : World) (hc : InsAt w cv l) (hd : InsAt w dv l) (ht : TypAt w tv lt) (hu : TypAt w uv lt) (hs : SltAt w sv ls) (hx : SltAt w xv ls)
    (h1 : l.length ≤ 100000) (h2 : lt.length ≤ 100000) (h3 : ls.length ≤ 100000) :
    Calls Tryd.prog 33 #[.agg #[cv, tv, sv, .int .i64 words], dv, uv, xv, .int .i64 words] w fun e w' => e = .returned (.bool true) ∧ Up w w' := by
  have HC := Lib.hid hc
  have HD := Lib.hid hd
  have HT := Lib.hid ht
  have HV := Lib.hid hu
  have HS := Lib.hid hs
  have HX := Lib.hid hx
  obtain ⟨⟨ca, cc, rfl⟩, cm⟩ := hc.slice
  obtain ⟨⟨da, dc, rfl⟩, dm⟩ := hd.slice
  obtain ⟨⟨ta, tc, rfl⟩, tm⟩ := ht.slice
  obtain ⟨⟨ua, uc, rfl⟩, um⟩ := hu.slice
  obtain ⟨⟨sa, sc, rfl⟩, sm⟩ := hs.slice
  obtain ⟨⟨xa, xc, rfl⟩, xm⟩ := hx.slice
  obtain ⟨n, hn⟩ : ∃ n, l.length = n := ⟨_, rfl⟩
  obtain ⟨m, hm⟩ : ∃ m, lt.length = m := ⟨_, rfl⟩
  obtain ⟨k, hk⟩ : ∃ k, ls.length = k := ⟨_, rfl⟩
  rw [hn] at h1 cm
  rw [hm] at h2 tm
  rw [hk] at h3 sm
  rw [hn, hm, hk]
  have HN := Lib.hid hn
  have HM := Lib.hid hm
  have HK := Lib.hid hk
  clear hn hm hk hc hd ht hu hs hx dm um xm
  have hnI : (n : Int) ≤ 100000 := by omega
  have hmI : (m : Int) ≤ 100000 := by omega
  have hkI : (k : Int) ≤ 100000 := by omega
  have HB : Hid (UBox (w.alloc (.cells #[.slice ca n cc, .slice ta m tc, .slice sa k sc, .int .i64 words] 31)) w.heap.size 31 (.slice ca n cc) (.slice ta m tc) (.slice sa k sc) (.int .i64 words)) := Lib.hid (UBox.new w _ _ _ _ _)
  have HU1 : Hid (Up w (w.alloc (.cells #[.slice ca n cc, .slice ta m tc, .slice sa k sc, .int .i64 words] 31))) := Lib.hid ((Up.refl w).alloc _)
  go_enter Tryd.func33, Tryd.ntmps33
  go_wp2
  have HUB := HU1
  have HBB := HB
  go_loopw [11] (fun iv wr => ∃ i : Nat, i ≤ n ∧ iv = .int .i64 i ∧ Up (w.alloc (.cells #[.slice ca n cc, .slice ta m tc, .slice sa k sc, .int .i64 words] 31)) wr) (fun iv _ => n - (intOf iv).toNat)
  case atStart => exact ⟨0, by omega, rfl, Up.refl _⟩
  case round =>
    rename World => wr
    obtain ⟨i, hi, rfl, hU⟩ := hrel
    have HUW := Lib.hid hU
    have HUA := Lib.hid (HUB.out.trans hU)
    have HBW := Lib.hid (HBB.out.up hU)
    clear hU
    obtain ⟨v0, v1, v2, v3⟩ := HBW.out.all
    have hsb := UBox.lt HBW.out
    by_cases hlt : i < n
    · have hltI : (i : Int) < n := by omega
      obtain ⟨y, hy⟩ : ∃ y, l.getD i i0 = y := ⟨_, rfl⟩
      obtain ⟨bl, off, ha, hbl, ⟨k0, k1, k2, k3, k4, k5, k6, k7, k8, k9, k10⟩, -⟩ := HC.out.elem HUA.out i (by rw [HN.out]; exact hlt) HN.out (by rw [HN.out]) hy
      obtain ⟨bm, ofm, hb, hbm, ⟨m0, m1, m2, m3, m4, m5, m6, m7, m8, m9, m10⟩, -⟩ := HD.out.elem HUA.out i (by rw [HN.out]; exact hlt) HN.out (by rw [HN.out]) hy
      subst ha hb
      have hb1 : bl < wr.heap.size := Nat.lt_of_lt_of_le hbl HUA.out.size
      have hb2 : bm < wr.heap.size := Nat.lt_of_lt_of_le hbm HUA.out.size
      clear hy
      obtain ⟨op, A, b, c, ⟨n1, d⟩, kd, bi, fr, ro, ov⟩ := y
      dsimp only at k0 m0 k1 m1 k2 m2 k3 m3 k4 m4 k5 m5 k6 m6 k7 m7 k8 m8 k9 m9 k10 m10
      go_wp2
      refine wp_region_ext (by kernel_rfl) (by kernel_rfl) ?_
      repeat (go_big_quiet_step (fail))
      refine wpQuiet_nil ?_
      intro z hz
      go_wp2
      go_roundw
      case rel => exact ⟨i + 1, by omega, by go_num, HUW.out.trans hz⟩
      case measure => simp [intOf]; omega
    · have hin : n = i := by omega
      subst hin
      go_wp2
      replace HUB := HUA
      replace HBB := HBW
      clear v0 v1 v2 v3 hsb HUW HUA HBW
      obtain ⟨v0, v1, v2, v3⟩ := HBB.out.all
      go_loopw [12] (fun iv wr2 => ∃ i : Nat, i ≤ m ∧ iv = .int .i64 i ∧ Up wr wr2) (fun iv _ => m - (intOf iv).toNat)
      case atStart => exact ⟨0, by omega, rfl, Up.refl _⟩
      case round =>
        rename World => wr2
        obtain ⟨i, hi, rfl, hU⟩ := hrel
        have HUW := Lib.hid hU
        have HUA := Lib.hid (HUB.out.trans hU)
        have HBW := Lib.hid (HBB.out.up hU)
        clear hU
        obtain ⟨v0, v1, v2, v3⟩ := HBW.out.all
        have hsb := UBox.lt HBW.out
        by_cases hlt : i < m
        · have hltI : (i : Int) < m := by omega
          obtain ⟨y, hy⟩ : ∃ y, lt.getD i y0 = y := ⟨_, rfl⟩
          obtain ⟨bl, off, ha, hbl, ⟨k0, k1, k2, k3, k4⟩, -⟩ := HT.out.elem HUA.out i (by rw [HM.out]; exact hlt) HM.out (by rw [HM.out]) hy
          obtain ⟨bm, ofm, hb, hbm, ⟨m0, m1, m2, m3, m4⟩, -⟩ := HV.out.elem HUA.out i (by rw [HM.out]; exact hlt) HM.out (by rw [HM.out]) hy
          subst ha hb
          have hb1 : bl < wr2.heap.size := Nat.lt_of_lt_of_le hbl HUA.out.size
          have hb2 : bm < wr2.heap.size := Nat.lt_of_lt_of_le hbm HUA.out.size
          clear hy
          obtain ⟨a1, a2, a3, a4, a5⟩ := y
          dsimp only at k0 m0 k1 m1 k2 m2 k3 m3 k4 m4
          go_wp2
          refine wp_region_ext (by kernel_rfl) (by kernel_rfl) ?_
          repeat (go_big_quiet_step (fail))
          refine wpQuiet_nil ?_
          intro z hz
          go_wp2
          go_roundw
          case rel => exact ⟨i + 1, by omega, by go_num, HUW.out.trans hz⟩
          case measure => simp [intOf]; omega
        · have hin : m = i := by omega
          subst hin
          go_wp2
          replace HUB := HUA
          replace HBB := HBW
          clear v0 v1 v2 v3 hsb HUW HUA HBW
          obtain ⟨v0, v1, v2, v3⟩ := HBB.out.all
          go_loopw [13] (fun iv wr3 => ∃ i : Nat, i ≤ k ∧ iv = .int .i64 i ∧ Up wr2 wr3) (fun iv _ => k - (intOf iv).toNat)
          case atStart => exact ⟨0, by omega, rfl, Up.refl _⟩
          case round =>
            rename World => wr3
            obtain ⟨i, hi, rfl, hU⟩ := hrel
            have HUW := Lib.hid hU
            have HUA := Lib.hid (HUB.out.trans hU)
            have HBW := Lib.hid (HBB.out.up hU)
            clear hU
            obtain ⟨v0, v1, v2, v3⟩ := HBW.out.all
            have hsb := UBox.lt HBW.out
            by_cases hlt : i < k
            · have hltI : (i : Int) < k := by omega
              obtain ⟨y, hy⟩ : ∃ y, ls.getD i s0 = y := ⟨_, rfl⟩
              obtain ⟨bl, off, ha, hbl, k0, k1, k2⟩ := HS.out.elem HUA.out i (by rw [HK.out]; exact hlt) HK.out (by rw [HK.out]) hy
              obtain ⟨bm, ofm, hb, hbm, m0, m1, m2⟩ := HX.out.elem HUA.out i (by rw [HK.out]; exact hlt) HK.out (by rw [HK.out]) hy
              subst ha hb
              have hb1 : bl < wr3.heap.size := Nat.lt_of_lt_of_le hbl HUA.out.size
              have hb2 : bm < wr3.heap.size := Nat.lt_of_lt_of_le hbm HUA.out.size
              clear hy
              obtain ⟨a1, a2, a3⟩ := y
              dsimp only at k0 m0 k1 m1 k2 m2
              go_wp2
              refine wp_region_ext (by kernel_rfl) (by kernel_rfl) ?_
              repeat (go_big_quiet_step (fail))
              refine wpQuiet_nil ?_
              intro z hz
              go_wp2
              go_roundw
              case rel => exact ⟨i + 1, by omega, by go_num, HUW.out.trans hz⟩
              case measure => simp [intOf]; omega
            · have hin : k = i := by omega
              subst hin
              go_wp2
              go_ret
              exact ⟨rfl, HUA.out⟩

set_option maxHeartbeats 4000000 in
theorem law_same (cv tv sv dv uv xv : Value) (words : Int) (l : List Ins) (lt : List Typ) (ls : List Slt) (w : World) (hc : InsAt w cv l) (hd : InsAt w dv l) (ht : TypAt w tv lt) (hu : TypAt w uv lt) (hs : SltAt w sv ls) (hx : SltAt w xv ls)
    (h1 : l.length ≤ 100000) (h2 : lt.length ≤ 100000) (h3 : ls.length ≤ 100000) :
    Calls Tryd.prog 15 #[.agg #[dv, uv, xv, .int .i64 words], .agg #[cv, tv, sv, .int .i64 words]] w fun e w' => e = .returned (.bool true) ∧ Up w w' := by
  have HSA := Lib.hid (fun w' (h : Up w w') => r48_Same cv tv sv dv uv xv words l lt ls w' (hc.up h) (hd.up h) (ht.up h) (hu.up h) (hs.up h) (hx.up h) h1 h2 h3)
  obtain ⟨⟨ca, cc, rfl⟩, cm⟩ := hc.slice
  obtain ⟨⟨da, dc, rfl⟩, dm⟩ := hd.slice
  obtain ⟨⟨ta, tc, rfl⟩, tm⟩ := ht.slice
  obtain ⟨⟨ua, uc, rfl⟩, um⟩ := hu.slice
  obtain ⟨⟨sa, sc, rfl⟩, sm⟩ := hs.slice
  obtain ⟨⟨xa, xc, rfl⟩, xm⟩ := hx.slice
  obtain ⟨n, hn⟩ : ∃ n, l.length = n := ⟨_, rfl⟩
  obtain ⟨m, hm⟩ : ∃ m, lt.length = m := ⟨_, rfl⟩
  obtain ⟨k, hk⟩ : ∃ k, ls.length = k := ⟨_, rfl⟩
  rw [hn, hm, hk] at HSA
  rw [hn, hm, hk]
  clear hn hm hk hc hd ht hu hs hx h1 h2 h3 cm tm sm dm um xm
  have HU1 : Hid (Up w ((w.alloc (.cells #[.slice da n dc, .slice ua m uc, .slice xa k xc, .int .i64 words] 33)).alloc (.cells #[.slice ca n cc, .slice ta m tc, .slice sa k sc, .int .i64 words] 31))) := Lib.hid (((Up.refl w).alloc _).alloc _)
  go_enter Tryd.func15, Tryd.ntmps15
  go_wp2_with (go_at_call 33; refine (HSA.out _ HU1.out).mono ?_; rintro e z ⟨rfl, hz⟩)
  go_ret
  exact ⟨rfl, HU1.out.trans hz⟩

set_option maxHeartbeats 4000000 in
theorem law_small (cv tv sv : Value) (words most : Int) (l : List Ins) (lt : List Typ) (ls : List Slt) (w : World) (hc : InsAt w cv l) (ht : TypAt w tv lt) (hs : SltAt w sv ls) (r : Bool) (hr : (decide ((l.length : Int) ≤ most) && (decide ((lt.length : Int) ≤ 300) && decide ((ls.length : Int) ≤ 300))) = r) :
    Calls Tryd.prog 12 #[.agg #[cv, tv, sv, .int .i64 words], .int .i64 most] w fun e w' => e = .returned (.bool r) ∧ Up w w' := by
  obtain ⟨⟨ca, cc, rfl⟩, cm⟩ := hc.slice
  obtain ⟨⟨ta, tc, rfl⟩, tm⟩ := ht.slice
  obtain ⟨⟨sa, sc, rfl⟩, sm⟩ := hs.slice
  obtain ⟨n, hn⟩ : ∃ n, l.length = n := ⟨_, rfl⟩
  obtain ⟨m, hm⟩ : ∃ m, lt.length = m := ⟨_, rfl⟩
  obtain ⟨k, hk⟩ : ∃ k, ls.length = k := ⟨_, rfl⟩
  rw [hn, hm, hk] at hr
  rw [hn, hm, hk]
  have HR := Lib.hid hr
  clear hn hm hk hc ht hs cm tm sm hr
  go_enter Tryd.func12, Tryd.ntmps12
  go_wp2
  all_goals try simp only [Bool.not_eq_false', Bool.not_eq_true', bne_iff_ne, ne_eq, bne_eq_false_iff_eq, beq_iff_eq, beq_eq_false_iff_ne, decide_eq_true_eq, decide_eq_false_iff_not] at *
  all_goals
    go_ret
    exact ⟨ret_bool (by rw [← HR.out, Bool.eq_iff_iff]; simp [*]; try omega), (Up.refl w).alloc _⟩
end Go.Proofs.YtbpojmhgifgfdaaDoor
end

section
namespace Go.Proofs.YtbpojmhgifgfdaaDoor
open Go.ChangeShapes Go.WideShapes Go.ChangeAt Go.RowKit
set_option linter.unusedVariables false
set_option linter.unusedSimpArgs false
set_option maxRecDepth 100000

def exI (op A : Int) : Ins := (op, A, 0, 0, (0, 0), y0)
def ex0 : List Ins := [exI 7 2, exI 0 0, exI 7 3, exI 0 0]
def ex1 : List Ins := [exI 7 3, exI 0 0, exI 7 3, exI 0 0]
def ex2 : List Ins := [exI 7 2, exI 7 2, exI 0 0]
def ex3 : List Ins := [exI 7 1, exI 0 0]
def ex4 : List Ins := [exI 0 0]
theorem ex_s0 : stepF ex0 [] 0 = some ex1 := by kernel_rfl
theorem ex_s1 : stepF ex1 [] 0 = some ex2 := by kernel_rfl
theorem ex_s2 : stepF ex2 [] 0 = some ex3 := by kernel_rfl
theorem ex_s3 : stepF ex3 [] 0 = some ex4 := by kernel_rfl
theorem ex_s4 : stepF ex4 [] 0 = none := by kernel_rfl
theorem ex_opt : OptTo [] 0 4 ex0 ex4 := ⟨ex1, ex_s0, ex2, ex_s1, ex3, ex_s2, ex4, ex_s3, ex_s4, rfl⟩
theorem ex_un : unreachF ex0 = [1] := by kernel_rfl
abbrev exC : Array Value := #[.int .i64 7, .int .i64 2, .int .i64 0, .int .i64 0, .int .i64 0, .int .i64 0, .int .i64 0, .int .i64 0, .int .i64 0, .int .i64 0, .int .i64 0,
  .int .i64 0, .int .i64 0, .int .i64 0, .int .i64 0, .int .i64 0, .int .i64 0, .int .i64 0, .int .i64 0, .int .i64 0, .int .i64 0, .int .i64 0,
  .int .i64 7, .int .i64 3, .int .i64 0, .int .i64 0, .int .i64 0, .int .i64 0, .int .i64 0, .int .i64 0, .int .i64 0, .int .i64 0, .int .i64 0,
  .int .i64 0, .int .i64 0, .int .i64 0, .int .i64 0, .int .i64 0, .int .i64 0, .int .i64 0, .int .i64 0, .int .i64 0, .int .i64 0, .int .i64 0]
theorem ex_lay (w : World) (t : TypeId) : InsAt (w.alloc (.cells exC t)) (.slice (some ⟨w.heap.size, 0, none⟩) 4 4) ex0 := by
  refine ⟨SlAt.lay w t exC 4 11 _ (by decide) fun i j hi hj => ?_, fun x hx => ?_⟩
  · rcases (by omega : i = 0 ∨ i = 1 ∨ i = 2 ∨ i = 3) with rfl | rfl | rfl | rfl <;>
    rcases (by omega : j = 0 ∨ j = 1 ∨ j = 2 ∨ j = 3 ∨ j = 4 ∨ j = 5 ∨ j = 6 ∨ j = 7 ∨ j = 8 ∨ j = 9 ∨ j = 10) with rfl | rfl | rfl | rfl | rfl | rfl | rfl | rfl | rfl | rfl | rfl <;> rfl
  · simp only [ex0, List.mem_cons, List.not_mem_nil, or_false] at hx
    intro j
    rcases hx with rfl | rfl | rfl | rfl <;>
    (match j with
    | 0 => exact ⟨by decide, by decide⟩
    | 1 => exact ⟨by decide, by decide⟩
    | 2 => exact ⟨by decide, by decide⟩
    | 3 => exact ⟨by decide, by decide⟩
    | 4 => exact ⟨by decide, by decide⟩
    | 5 => exact ⟨by decide, by decide⟩
    | 6 => exact ⟨by decide, by decide⟩
    | 7 => exact ⟨by decide, by decide⟩
    | 8 => exact ⟨by decide, by decide⟩
    | 9 => exact ⟨by decide, by decide⟩
    | j + 10 => exact ⟨(by decide : (-9223372036854775808 : Int) ≤ 0), (by decide : (0 : Int) ≤ 9223372036854775807)⟩)
theorem TypAt.nil (w : World) : TypAt w (.slice none 0 0) [] := ⟨SlAt.nil _ _ _, fun x h => by cases h⟩
theorem SltAt.nil (w : World) : SltAt w (.slice none 0 0) [] := SlAt.nil _ _ _

def exW (w : World) : World := ((w.alloc (.cells exC 64)).alloc (.cells #[.slice (some ⟨w.heap.size, 0, none⟩) 4 4, .slice none 0 0, .slice none 0 0, .int .i64 0] 33))
set_option maxHeartbeats 16000000 in
theorem law_examples (w : World) (hT : ITab w) : Calls Tryd.prog 8 #[] w fun e w' => e = .returned (.bool true) ∧ Up w w' := by
  have HT := Lib.hid hT
  clear hT
  have HE0 : Hid (InsAt (w.alloc (.cells exC 64)) (.slice (some ⟨w.heap.size, 0, none⟩) 4 4) ex0) := Lib.hid (ex_lay w _)
  have HU1 : Hid (Up w (exW w)) := Lib.hid (((Up.refl w).alloc _).alloc _)
  have HB1 : Hid (UBox (exW w) (w.heap.size + 1) 33 (.slice (some ⟨w.heap.size, 0, none⟩) 4 4) (.slice none 0 0) (.slice none 0 0) (.int .i64 0)) := Lib.hid (by
    have := UBox.new (w.alloc (.cells exC 64)) 33 (.slice (some ⟨w.heap.size, 0, none⟩) 4 4) (.slice none 0 0) (.slice none 0 0) (.int .i64 0)
    rw [size_al] at this
    exact this)
  have HE1 : Hid (InsAt (exW w) (.slice (some ⟨w.heap.size, 0, none⟩) 4 4) ex0) := Lib.hid (HE0.out.up ((Up.refl _).alloc _))
  have HT1 := Lib.hid (HT.out.up HU1.out)
  have HST : Hid (Calls Tryd.prog 13 #[.agg #[.slice (some ⟨w.heap.size, 0, none⟩) 4 4, .slice none 0 0, .slice none 0 0, .int .i64 0]] (exW w) fun e w' => ∃ bl off c ta tc sa sc, e = .returned (.tuple #[.agg #[.slice (some ⟨bl, off, none⟩) 4 c, .slice ta 0 tc, .slice sa 0 sc, .int .i64 0], .bool true]) ∧ Up (exW w) w' ∧ bl < w'.heap.size ∧ w'.cell? ⟨bl, off + 1, none⟩ = some (.int .i64 3)) := Lib.hid (by
    refine (pe_Step _ _ _ 0 ex0 [] [] (exW w) HT1.out HE1.out (TypAt.nil _) (SltAt.nil _) (by decide) (by decide) (by decide)).mono ?_
    rintro e w' ⟨c', t', s', rfl, h1, h2, h3, h4, -⟩
    rw [ex_s0] at h2 ⊢
    have h2 : InsAt w' c' ex1 := h2
    obtain ⟨⟨a, c, rfl⟩, -⟩ := h2.slice
    obtain ⟨⟨ta, tc, rfl⟩, -⟩ := h3.slice
    obtain ⟨⟨sa, sc, rfl⟩, -⟩ := h4.slice
    obtain ⟨bl, off, rfl, hbl, hI, -⟩ := h2.elem (Up.refl w') 0 (by decide) rfl rfl rfl
    exact ⟨_, _, c, ta, tc, sa, sc, rfl, h1, hbl, by simpa [ex1, exI] using hI.2.1⟩)
  have HOP : Hid (∀ w2, Up (exW w) w2 → Calls Tryd.prog 16 #[.agg #[.slice (some ⟨w.heap.size, 0, none⟩) 4 4, .slice none 0 0, .slice none 0 0, .int .i64 0]] w2 fun e w' => ∃ bl off c ta tc sa sc, e = .returned (.tuple #[.agg #[.slice (some ⟨bl, off, none⟩) 1 c, .slice ta 0 tc, .slice sa 0 sc, .int .i64 0], .int .i64 4]) ∧ Up w2 w' ∧ bl < w'.heap.size ∧ w'.cell? ⟨bl, off, none⟩ = some (.int .i64 0)) := Lib.hid (fun w2 hu => by
    refine (pe_Optimize _ _ _ 0 ex0 [] [] w2 (HT1.out.up hu) (HE1.out.up hu) (TypAt.nil _) (SltAt.nil _) (by decide) (by decide) (by decide) 4 ex4 ex_opt (by decide)).mono ?_
    rintro e w' ⟨c', t', s', rfl, h1, h2, h3, h4⟩
    obtain ⟨⟨a, c, rfl⟩, -⟩ := h2.slice
    obtain ⟨⟨ta, tc, rfl⟩, -⟩ := h3.slice
    obtain ⟨⟨sa, sc, rfl⟩, -⟩ := h4.slice
    obtain ⟨bl, off, rfl, hbl, hI, -⟩ := h2.elem (Up.refl w') 0 (by decide) rfl rfl rfl
    exact ⟨_, _, c, ta, tc, sa, sc, rfl, h1, hbl, by simpa [ex4, exI] using hI.1⟩)
  have HUN : Hid (∀ w2, Up (exW w) w2 → Calls Tryd.prog 10 #[.slice (some ⟨w.heap.size, 0, none⟩) 4 4] w2 fun e w' => ∃ v', e = .returned v' ∧ Up w2 w' ∧ IntsAt w' v' [1]) := Lib.hid (fun w2 hu => by
    have := pe_Unreachable _ ex0 w2 (HE1.out.up hu) (by decide)
    rw [ex_un] at this
    exact this)
  have HIN : Hid (∀ w2 va vb, IntsAt w2 va [1] → IntsAt w2 vb [1] → Calls Tryd.prog 9 #[va, vb] w2 fun e w' => e = .returned (.bool true) ∧ Up w2 w') := Lib.hid (fun w2 va vb ha hb => base_Ints va vb [1] [1] w2 ha hb)
  clear HT HE0 HE1 HT1
  have q0 := HB1.out.all
  obtain ⟨q0, q1, q2, q3⟩ := q0
  go_enter Tryd.func8, Tryd.ntmps8
  go_wp2_with (first
    | (go_at_call 13; refine HST.out.mono ?_; rintro e z ⟨b2, o2, c2, ta2, tc2, sa2, sc2, rfl, hz, hb2, hc2⟩; have HUZ := Lib.hid (hz.alloc (.cells #[.slice (some ⟨b2, o2, none⟩) 4 c2, .slice ta2 0 tc2, .slice sa2 0 sc2, .int .i64 0] 33)); have HBZ := Lib.hid (HB1.out.up hz); have HB2 := Lib.hid (UBox.new z 33 (.slice (some ⟨b2, o2, none⟩) 4 c2) (.slice ta2 0 tc2) (.slice sa2 0 sc2) (.int .i64 0)); have HC2 := Lib.hid hc2; have HL2 := Lib.hid hb2; clear hc2 hb2 hz q0 q1 q2 q3; obtain ⟨q0, q1, q2, q3⟩ := HBZ.out.all; have hlz := UBox.lt HBZ.out)
    | (go_at_call 16; refine (HOP.out _ HUZ.out).mono ?_; rintro e z2 ⟨b4, o4, c4, ta4, tc4, sa4, sc4, rfl, hz2, hb4, hc4⟩; have HUZ2 := Lib.hid ((HUZ.out.trans hz2).alloc (.cells #[.slice (some ⟨b4, o4, none⟩) 1 c4, .slice ta4 0 tc4, .slice sa4 0 sc4, .int .i64 0] 33)); have HU22 := Lib.hid (((Up.refl z).alloc (.cells #[.slice (some ⟨b2, o2, none⟩) 4 c2, .slice ta2 0 tc2, .slice sa2 0 sc2, .int .i64 0] 33)).trans hz2); have HBZ2 := Lib.hid ((HBZ.out.up ((Up.refl z).alloc (.cells #[.slice (some ⟨b2, o2, none⟩) 4 c2, .slice ta2 0 tc2, .slice sa2 0 sc2, .int .i64 0] 33))).up hz2); have HB22 := Lib.hid (HB2.out.up hz2); have HB4 := Lib.hid (UBox.new z2 33 (.slice (some ⟨b4, o4, none⟩) 1 c4) (.slice ta4 0 tc4) (.slice sa4 0 sc4) (.int .i64 0)); have HC4 := Lib.hid hc4; have HL4 := Lib.hid hb4; clear hc4 hb4 hz2 q0 q1 q2 q3; obtain ⟨q0, q1, q2, q3⟩ := HBZ2.out.all; have hlz2 := UBox.lt HBZ2.out)
    | (go_at_call 10; refine (HUN.out _ HUZ2.out).mono ?_; rintro e z3 ⟨v', rfl, hz3, hv⟩; have HU3 := Lib.hid (((Up.refl z2).alloc (.cells #[.slice (some ⟨b4, o4, none⟩) 1 c4, .slice ta4 0 tc4, .slice sa4 0 sc4, .int .i64 0] 33)).trans hz3); have HU3b := Lib.hid hz3; have HV := Lib.hid hv; have HUZ3 := Lib.hid (HUZ2.out.trans hz3); clear hz3 hv q0 q1 q2 q3)
    | (go_at_call 9; refine (HIN.out _ _ _ (HV.out.up ((Up.refl z3).alloc (.cells #[.int .i64 1] 3))) (IntsAt.one z3 _ 1)).mono ?_; rintro e z4 ⟨rfl, hz4⟩; have HU4 := Lib.hid ((HU3.out.alloc (.cells #[.int .i64 1] 3)).trans hz4); have HU4b := Lib.hid ((HU3b.out.alloc (.cells #[.int .i64 1] 3)).trans hz4); have HUE := Lib.hid ((HUZ3.out.alloc (.cells #[.int .i64 1] 3)).trans hz4); have f2 := (HB22.out.up HU4.out).all; have f4 := (HB4.out.up HU4b.out).all; obtain ⟨f20, f21, f22, f23⟩ := f2; obtain ⟨f40, f41, f42, f43⟩ := f4; have g2 : z4.cell? ⟨b2, o2 + 1, none⟩ = some (.int .i64 3) := (((HU22.out.trans HU4.out).cell _ _ HL2.out).trans HC2.out); have g4 : z4.cell? ⟨b4, o4, none⟩ = some (.int .i64 0) := ((HU4.out.cell _ _ HL4.out).trans HC4.out); clear hz4))
  go_ret
  exact ⟨rfl, HU1.out.trans HUE.out⟩
end Go.Proofs.YtbpojmhgifgfdaaDoor
end
