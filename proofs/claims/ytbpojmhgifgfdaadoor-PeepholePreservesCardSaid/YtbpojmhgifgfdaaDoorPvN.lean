/-
  The reference 49: Store. Printed by mkPvN.py.
-/
import Derived.Test.YtbpojmhgifgfdaaDoorPvZ
namespace Go.Proofs.YtbpojmhgifgfdaaDoor
open Go.ChangeShapes Go.WideShapes Go.ChangeAt Go.RowKit
set_option linter.unusedVariables false
set_option linter.unusedSimpArgs false
set_option maxRecDepth 100000

def stL (M : List (Int × Int)) (at' : Nat) (V : List (Int × Int)) : List (Int × Int) := M.take at' ++ V ++ M.drop (at' + V.length)
theorem stL_len (M : List (Int × Int)) (at' : Nat) (V : List (Int × Int)) (h : at' + V.length ≤ M.length) : (stL M at' V).length = M.length := by
  unfold stL; simp; omega
theorem vl_app (A B : List (Int × Int)) (a b : Nat) (ha : A.length = a) (hb : B.length = b) : flat (vlF A) a 2 ++ flat (vlF B) b 2 = flat (vlF (A ++ B)) (a + b) 2 := by
  subst ha hb
  refine List.ext_getElem? fun q => ?_
  have hm : q % 2 < 2 := by omega
  have e : q = q / 2 * 2 + q % 2 := by omega
  rcases Nat.lt_or_ge q ((A.length + B.length) * 2) with hq | hq
  · have hd : q / 2 < A.length + B.length := by omega
    have e1 : (flat (vlF (A ++ B)) (A.length + B.length) 2)[q]? = some (vlF (A ++ B) (q / 2) (q % 2)) := by
      have := flat_get (vlF (A ++ B)) (A.length + B.length) 2 (q / 2) (q % 2) hd hm
      rwa [← e] at this
    rw [e1]
    rcases Nat.lt_or_ge q (A.length * 2) with h1 | h1
    · rw [List.getElem?_append_left (by rw [flat_length]; exact h1)]
      have := flat_get (vlF A) A.length 2 (q / 2) (q % 2) (by omega) hm
      rw [← e] at this
      rw [this]
      unfold vlF
      rw [List.getD_eq_getElem?_getD, List.getD_eq_getElem?_getD, List.getElem?_append_left (by omega)]
    · rw [List.getElem?_append_right (by rw [flat_length]; exact h1), flat_length]
      have := flat_get (vlF B) B.length 2 (q / 2 - A.length) (q % 2) (by omega) hm
      rw [show (q / 2 - A.length) * 2 + q % 2 = q - A.length * 2 by omega] at this
      rw [this]
      unfold vlF
      rw [List.getD_eq_getElem?_getD, List.getD_eq_getElem?_getD, List.getElem?_append_right (by omega)]
  · rw [List.getElem?_eq_none (by rw [List.length_append, flat_length, flat_length]; omega), List.getElem?_eq_none (by rw [flat_length]; exact hq)]
/-- A part of a slice. -/
theorem ValsAt.part {w : World} {a : Option Addr} {n c : Nat} {M : List (Int × Int)} (h : ValsAt w (.slice a n c) M) (hn : M.length = n) (hc : n ≤ c) (lo hi m : Nat) (h1 : lo ≤ hi) (h2 : hi ≤ n) (hm : m = c) : SlAt w (.slice (if m = lo then a else a.map (·.add (lo * 2))) (hi - lo) (m - lo)) (hi - lo) 2 (vlF ((M.take hi).drop lo)) := by
  subst hm hn
  obtain ⟨⟨a', c', hv, h0, hx⟩, hmx⟩ := h
  simp only [Value.slice.injEq] at hv
  obtain ⟨rfl, -, rfl⟩ := hv
  refine ⟨⟨_, _, rfl, fun e => ?_, fun x hx' hp => ?_⟩, by omega⟩
  · by_cases hml : m = lo
    · omega
    · rw [if_neg hml] at e
      cases a with
      | none => have := h0 rfl; omega
      | some _ => cases e
  · by_cases hml : m = lo
    · omega
    · rw [if_neg hml] at hx'
      cases a with
      | none => cases hx'
      | some y =>
        obtain ⟨g1, g2, g3⟩ := hx y rfl (by omega)
        obtain ⟨yb, yo, ys⟩ := y
        obtain rfl : ys = none := g1
        simp only [Option.map_some, Option.some.injEq, add_lit_ne] at hx'
        subst hx'
        refine ⟨rfl, g2, fun i j hi' hj => ?_⟩
        have := g3 (lo + i) j (by omega) hj
        show w.cell? ⟨yb, yo + lo * 2 + i * 2 + j, none⟩ = _
        rw [show yo + lo * 2 + i * 2 + j = yo + (lo + i) * 2 + j by omega, this]
        unfold vlF
        rw [List.getD_eq_getElem?_getD, List.getD_eq_getElem?_getD, List.getElem?_drop, List.getElem?_take, if_pos (by omega)]

theorem ValsAt.head {w : World} {a : Option Addr} {n c : Nat} {M : List (Int × Int)} (h : ValsAt w (.slice a n c) M) (hn : M.length = n) (hi : Nat) (h2 : hi ≤ n) : SlAt w (.slice a hi c) hi 2 (vlF (M.take hi)) := by
  subst hn
  obtain ⟨⟨a', c', hv, h0, hx⟩, hmx⟩ := h
  simp only [Value.slice.injEq] at hv
  obtain ⟨rfl, -, rfl⟩ := hv
  refine ⟨⟨_, _, rfl, fun e => by have := h0 e; omega, fun x hx' hp => ?_⟩, by omega⟩
  obtain ⟨g1, g2, g3⟩ := hx x hx' (by omega)
  refine ⟨g1, g2, fun i j hi' hj => ?_⟩
  rw [g3 i j (by omega) hj]
  unfold vlF
  rw [List.getD_eq_getElem?_getD, List.getD_eq_getElem?_getD, List.getElem?_take, if_pos (by omega)]
theorem ValsAt.tail {w : World} {a : Option Addr} {n c : Nat} {M : List (Int × Int)} (h : ValsAt w (.slice a n c) M) (hn : M.length = n) (hc : n ≤ c) (lo : Nat) (h2 : lo ≤ n) : SlAt w (.slice (if c = lo then a else a.map (·.add (lo * 2))) (n - lo) (c - lo)) (n - lo) 2 (vlF (M.drop lo)) := by
  have := h.part hn hc lo n c h2 (Nat.le_refl _) rfl
  rwa [List.take_of_length_le (by omega)] at this
def Stopped (p : Prop) : Prop := p
theorem stop {p : Prop} (h : Stopped p) : p := h
set_option maxHeartbeats 8000000 in
theorem r49_Store (ca ta xa ra ma : Option Addr) (cn cc tn tc xn xc rn rc mc : Nat) (pc : Int) (hal : Bool) (M V : List (Int × Int)) (vv : Value) (n k at' : Nat) (w : World) (hm : ValsAt w (.slice ma n mc) M) (hv : ValsAt w vv V) (hn : M.length = n) (hk : V.length = k) (hat : at' + k ≤ n) (hcap : n ≤ mc) (hlen : n ≤ 100000) (hcx : mc ≤ 9223372036854775807) :
    Calls Tryd.prog 20 #[.agg #[.slice ca cn cc, .slice ta tn tc, .int .i64 pc, .slice xa xn xc, .slice ra rn rc, .slice ma n mc, .bool hal], .int .i64 at', vv] w fun e w' => ∃ m', e = .returned (.tuple #[.agg #[.slice ca cn cc, .slice ta tn tc, .int .i64 pc, .slice xa xn xc, .slice ra rn rc, m', .bool hal], .int .i64 0]) ∧ Up w w' ∧ ValsAt w' m' (stL M at' V) ∧ Fresh w.heap.size m' ∧ CapOK m' := by
  obtain ⟨j0, hi0, hz0, hz1, hz2⟩ := info_parts val_info
  obtain ⟨⟨va, vc, rfl⟩, vm⟩ := hv.slice
  rw [hk] at hv ⊢
  have HM := Lib.hid hm
  have HV : Hid (SlAt w (.slice va k vc) k 2 (vlF V)) := Lib.hid (by have := hv; unfold ValsAt at this; rw [hk] at this; exact this)
  have HN := Lib.hid hn
  have HK := Lib.hid hk
  have hnI : (n : Int) ≤ 100000 := by omega
  have hatI : (at' : Int) + k ≤ n := by omega
  have hcI : (n : Int) ≤ mc := by omega
  have HLT : Hid ((M.take at').length = at') := Lib.hid (by rw [List.length_take, HN.out]; omega)
  have HLA : Hid ((M.take at' ++ V).length = at' + k) := Lib.hid (by rw [List.length_append, HLT.out, HK.out])
  have HLD : Hid ((M.drop (at' + k)).length = n - (at' + k)) := Lib.hid (by rw [List.length_drop, HN.out])
  have HSU : Hid (at' + k + (n - (at' + k)) = n) := Lib.hid (by omega)
  have HIN := Lib.hid (fun x => r49_inside (.slice ca cn cc) (.slice ta tn tc) (.slice xa xn xc) (.slice ra rn rc) (.slice ma n mc) (.slice ma n mc) ma n mc pc at' k hal hlen true (by unfold insB; simp; omega) x ⟨⟨_, _, _, rfl⟩, ⟨_, _, _, rfl⟩, ⟨_, _, _, rfl⟩, ⟨_, _, _, rfl⟩⟩)
  clear hm hv hn hk
  have HU : Hid (Up w ((w.alloc (.cells #[.slice ca cn cc, .slice ta tn tc, .int .i64 pc, .slice xa xn xc, .slice ra rn rc, .slice ma n mc, .bool hal] 50)).alloc (.cells #[.slice none 0 0, .slice none 0 0, .int .i64 0, .slice none 0 0, .slice none 0 0, .slice none 0 0, .bool false] 50))) := Lib.hid (((Up.refl w).alloc _).alloc _)
  have B0 : Hid (BoxC ((w.alloc (.cells #[.slice ca cn cc, .slice ta tn tc, .int .i64 pc, .slice xa xn xc, .slice ra rn rc, .slice ma n mc, .bool hal] 50)).alloc (.cells #[.slice none 0 0, .slice none 0 0, .int .i64 0, .slice none 0 0, .slice none 0 0, .slice none 0 0, .bool false] 50)) w.heap.size 50 #[.slice ca cn cc, .slice ta tn tc, .int .i64 pc, .slice xa xn xc, .slice ra rn rc, .slice ma n mc, .bool hal]) := Lib.hid ((BoxC.new w _ _).up ((Up.refl _).alloc _))
  have B1 : Hid (BoxC ((w.alloc (.cells #[.slice ca cn cc, .slice ta tn tc, .int .i64 pc, .slice xa xn xc, .slice ra rn rc, .slice ma n mc, .bool hal] 50)).alloc (.cells #[.slice none 0 0, .slice none 0 0, .int .i64 0, .slice none 0 0, .slice none 0 0, .slice none 0 0, .bool false] 50)) (w.heap.size + 1) 50 #[.slice none 0 0, .slice none 0 0, .int .i64 0, .slice none 0 0, .slice none 0 0, .slice none 0 0, .bool false]) := Lib.hid (BoxC.new2 w _ _ _)
  go_enter Tryd.func20, Tryd.ntmps20
  go_wp2_with (first
    | (go_at_call 37; refine (HIN.out _).mono ?_; rintro e x ⟨rfl, hx⟩; replace HU := Lib.hid (HU.out.trans hx); have X0 := Lib.hid (B0.out.up hx); have X1 := Lib.hid (B1.out.up hx); clear hx B0 B1; have HX0 := Lib.hid (Up.refl x); have hs0 := X0.out.lt; have hs1 := X1.out.lt; replace HM := Lib.hid (HM.out.up HU.out); have HT := Lib.hid (HM.out.tail HN.out hcap (at' + k) hat); replace HV := Lib.hid (HV.out.up HU.out); have B0 := Lib.hid (X0.out.up HX0.out); have B1 := Lib.hid (X1.out.up HX0.out); obtain ⟨p0, p1, p2, p3, p4, p5, p6⟩ := B0.out.seven)
    | (at_builtin; refine wpList_append_sl _ rfl _ _ 47 rfl x.heap.size 60 j0 _ 2 16 Tryd.underlying47 hi0 hz0 hz1 hz2 rfl (by decide) (.slice a2 (at' + k) c2) (at' + k) _ rfl O2.out (.slice (if mc = at' + k then ma else ma.map (·.add ((at' + k) * 2))) (n - (at' + k)) (mc - (at' + k))) (n - (at' + k)) (vlF (M.drop (at' + k))) rfl (HT.out.up HX2.out) (fun i j _ _ => vlF_one _ _ _) (by rw [maxLen]; omega) (by omega) HX2.out.size ?_; rintro v3 w3 ho3 hg3 - -; rw [vl_app _ _ _ _ HLA.out HLD.out, HSU.out] at ho3; obtain ⟨a3, c3, rfl⟩ := own_slice ho3; have O3 := Lib.hid ho3; have HX3 := Lib.hid (HX2.out.grown hg3 fun g hg => own_base O2.out g hg); clear ho3 hg3; clear B0 B1 p0 p1 p2 p3 p4 p5 p6; have B0 := Lib.hid (X0.out.up HX3.out); have B1 := Lib.hid (X1.out.up HX3.out); obtain ⟨p0, p1, p2, p3, p4, p5, p6⟩ := B0.out.seven; obtain ⟨z0, z1, z2, z3, z4, z5, z6⟩ := B1.out.seven; have pf := B0.out.frozen; have zf := B1.out.frozen)
    | (at_builtin; refine wpList_append_sl _ rfl _ _ 47 rfl x.heap.size 60 j0 _ 2 16 Tryd.underlying47 hi0 hz0 hz1 hz2 rfl (by decide) (.slice a1 at' c1) at' _ rfl O1.out (.slice va k vc) k (vlF V) rfl (HV.out.up HX1.out) (fun i j _ _ => vlF_one _ _ _) (by rw [maxLen]; omega) (by omega) HX1.out.size ?_; rintro v2 w2 ho2 hg2 - -; rw [vl_app _ _ _ _ (HLT.out) HK.out] at ho2; obtain ⟨a2, c2, rfl⟩ := own_slice ho2; have O2 := Lib.hid ho2; have HX2 := Lib.hid (HX1.out.grown hg2 fun g hg => own_base O1.out g hg); clear ho2 hg2; clear B0 B1 p0 p1 p2 p3 p4 p5 p6; have B0 := Lib.hid (X0.out.up HX2.out); have B1 := Lib.hid (X1.out.up HX2.out); obtain ⟨p0, p1, p2, p3, p4, p5, p6⟩ := B0.out.seven)
    | (at_builtin; refine wpList_append_sl _ rfl _ _ 47 rfl x.heap.size 60 j0 _ 2 16 Tryd.underlying47 hi0 hz0 hz1 hz2 rfl (by decide) (.slice none 0 0) 0 [] rfl (World.ownsRow_nil _ _ _ _) (.slice ma at' mc) at' (vlF (M.take at')) rfl (HM.out.head HN.out at' (by omega)) (fun i j _ _ => vlF_one _ _ _) (by rw [maxLen]; omega) (by omega) (Nat.le_refl _) ?_; rintro v1 w1 ho1 hg1 - -; rw [Nat.zero_add, List.nil_append] at ho1; obtain ⟨a1, c1, rfl⟩ := own_slice ho1; have O1 := Lib.hid ho1; have HX1 := Lib.hid (grown_up hg1 (fun k hk => by cases hk)); clear ho1 hg1; clear B0 B1 p0 p1 p2 p3 p4 p5 p6; have B0 := Lib.hid (X0.out.up HX1.out); have B1 := Lib.hid (X1.out.up HX1.out); obtain ⟨p0, p1, p2, p3, p4, p5, p6⟩ := B0.out.seven)
    | (at_builtin; refine stop ?_))
  all_goals
    have OF : Hid (ValsAt w3 (.slice a3 n c3) (stL M at' V)) := Lib.hid (by
      have h2 := ValsAt.of_own O3.out (by rw [List.length_append, HLA.out, HLD.out]; omega) (by omega)
      unfold stL
      rw [HK.out]
      exact h2)
    have HG1 : ∀ b, blk (.slice a3 n c3) = some b → b ≠ w.heap.size := (Fresh.own O3.out).ne hs0
    have HG2 : ∀ b, blk (.slice a3 n c3) = some b → b ≠ w.heap.size + 1 := (Fresh.own O3.out).ne hs1
    have HFR := Lib.hid ((Fresh.own O3.out).le HU.out.size)
    have HCO := Lib.hid (CapOK.own O3.out)
    have HCF := Lib.hid ((((((((OF.out.set HG1 5 (.slice a3 n c3)).set HG2 0 (.slice ca cn cc)).set HG2 1 (.slice ta tn tc)).set HG2 2 (.int .i64 pc)).set HG2 3 (.slice xa xn xc)).set HG2 4 (.slice ra rn rc)).set HG2 5 (.slice a3 n c3)).set HG2 6 (.bool hal))
    have HUF := Lib.hid ((((((((((HU.out.trans HX3.out)).setCell (p := ⟨w.heap.size, 5, none⟩) (Nat.le_refl _) (.slice a3 n c3)).setCell (p := ⟨w.heap.size + 1, 0, none⟩) (by show w.heap.size ≤ w.heap.size + 1; omega) (.slice ca cn cc)).setCell (p := ⟨w.heap.size + 1, 1, none⟩) (by show w.heap.size ≤ w.heap.size + 1; omega) (.slice ta tn tc)).setCell (p := ⟨w.heap.size + 1, 2, none⟩) (by show w.heap.size ≤ w.heap.size + 1; omega) (.int .i64 pc)).setCell (p := ⟨w.heap.size + 1, 3, none⟩) (by show w.heap.size ≤ w.heap.size + 1; omega) (.slice xa xn xc)).setCell (p := ⟨w.heap.size + 1, 4, none⟩) (by show w.heap.size ≤ w.heap.size + 1; omega) (.slice ra rn rc)).setCell (p := ⟨w.heap.size + 1, 5, none⟩) (by show w.heap.size ≤ w.heap.size + 1; omega) (.slice a3 n c3)).setCell (p := ⟨w.heap.size + 1, 6, none⟩) (by show w.heap.size ≤ w.heap.size + 1; omega) (.bool hal))
    refine bodyPost_ret (v := .tuple #[.agg #[.slice ca cn cc, .slice ta tn tc, .int .i64 pc, .slice xa xn xc, .slice ra rn rc, .slice a3 n c3, .bool hal], .int .i64 0]) (by simp [results, Tryd.results20, go_sem, *]) rfl ?_
    exact ⟨_, rfl, HUF.out, HCF.out, HFR.out, HCO.out⟩
end Go.Proofs.YtbpojmhgifgfdaaDoor
