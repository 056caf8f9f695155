/-
  Joined by a program: SoD, SoE, SoF.
-/
import Derived.Test.YtpccaifhcmcegaaGreatHu

section
namespace Go.Proofs.YtpccaifhcmcegaaGreat
set_option linter.unusedSimpArgs false
open Go.ChangeShapes Go.WideShapes Go.ChangeAt Go.RowKit
set_option linter.unusedVariables false
set_option maxRecDepth 100000

set_option maxHeartbeats 16000000 in
theorem r14_named (N : Nat) (e : Ex) (v : Value) (w : World) (hv : ExAt (N + 1) w v e) :
    Calls Tryz.prog 86 #[v] w fun e' w' => BoolQ True w e' w' := by
  obtain ⟨op, nm, A, d, t0, t1, t2, t3, t4, K, la, lc, xa, xc, ra, rc, ms, ix, args, rfl, rfl, hnm, hL, hX, hR⟩ := hv.open
  obtain ⟨ln, hln⟩ : ∃ q, ms.length = q := ⟨_, rfl⟩
  obtain ⟨xn, hxn⟩ : ∃ q, ix.length = q := ⟨_, rfl⟩
  obtain ⟨rn, hrn⟩ : ∃ q, args.length = q := ⟨_, rfl⟩
  have hlnI : (ln : Int) ≤ 140737488351232 := by have := hL.bytes; omega
  have hxnI : (xn : Int) ≤ 140737488351232 := by have := hX.bytes; omega
  have hrnI : (rn : Int) ≤ 140737488351232 := by have := hR.bytes; omega
  rw [hln] at hL
  rw [hxn] at hX
  rw [hrn] at hR
  rw [hln, hxn, hrn]
  have HL := Lib.hid hL
  have HX := Lib.hid hX
  have HR := Lib.hid hR
  have HLN := Lib.hid hln
  have HXN := Lib.hid hxn
  have HRN := Lib.hid hrn
  have HNM := Lib.hid hnm
  have HU := Lib.hid ((Up.refl w).alloc (.cells #[.int .i64 op, .string nm, .int .i64 A, .int .i64 d, .int .i64 t0, .int .i64 t1, .int .i64 t2, .int .i64 t3, .int .i64 t4, .int .i64 K, .slice la ln lc, .slice xa xn xc, .slice ra rn rc] 48))
  have HB := Lib.hid (BoxC.new w 48 #[.int .i64 op, .string nm, .int .i64 A, .int .i64 d, .int .i64 t0, .int .i64 t1, .int .i64 t2, .int .i64 t3, .int .i64 t4, .int .i64 K, .slice la ln lc, .slice xa xn xc, .slice ra rn rc])
  clear hL hX hR hln hxn hrn hnm

  clear hv
  obtain ⟨qn, hqn⟩ : ∃ q, nameB nm.toList = q := ⟨_, rfl⟩
  have HNA := Lib.hid (fun y => base_Name nm y)
  rw [hqn] at HNA
  clear hqn
  obtain ⟨q3, hq3⟩ : ∃ q, (op == 3) = q := ⟨_, rfl⟩
  go_enter Tryz.func86, Tryz.ntmps86
  cases q3
  · go_wp2
    have HV := Lib.hid HU.out
    have HBV := Lib.hid HB.out
    clear HU HB HNA
    generalize w.alloc (.cells #[.int .i64 op, .string nm, .int .i64 A, .int .i64 d, .int .i64 t0, .int .i64 t1, .int .i64 t2, .int .i64 t3, .int .i64 t4, .int .i64 K, .slice la ln lc, .slice xa xn xc, .slice ra rn rc] 48) = W1 at *
    go_wp2
    go_loopw [3] (fun iv y => ∃ i : Nat, iv = .int .i64 i ∧ i ≤ xn ∧ Up w y ∧ BoxC y w.heap.size 48 #[.int .i64 op, .string nm, .int .i64 A, .int .i64 d, .int .i64 t0, .int .i64 t1, .int .i64 t2, .int .i64 t3, .int .i64 t4, .int .i64 K, .slice la ln lc, .slice xa xn xc, .slice ra rn rc]) (fun iv _ => xn - (intOf iv).toNat)
    case atStart => exact ⟨0, rfl, Nat.zero_le _, HV.out, HBV.out⟩
    case round =>
      rename World => y
      obtain ⟨i, rfl, hi, hup, hb⟩ := hrel
      have HUY := Lib.hid hup
      have HBY := Lib.hid hb
      have b11 : y.cell? ⟨w.heap.size, 11, none⟩ = some (.slice xa xn xc) := cell_of_row _ _ _ _ _ _ hb
      have bs := hb.lt
      clear hup hb
      by_cases hlt : i < xn
      · have hltI : (i : Int) < xn := by omega
        have hi1 : i < ix.length := by rw [HXN.out]; exact hlt
        obtain ⟨g, o, ya, yc, ta, tc, rfl, hg, c0, c1, c2, c3, -, -, -⟩ := HX.out.ix4 i hi1
        obtain ⟨s, hs⟩ : ∃ q, ix[i].2.1 = q := ⟨_, rfl⟩
        rw [hs] at c2
        replace c2 := cell_up' HUY.out hg c2
        have gs := Nat.lt_of_lt_of_le hg HUY.out.size
        clear hi1 hg hs c0 c1 c3
        obtain ⟨qs, hqs⟩ : ∃ q, nameB s.toList = q := ⟨_, rfl⟩
        have HNA := Lib.hid (fun y => base_Name s y)
        rw [hqs] at HNA
        obtain ⟨qe, hqe⟩ : ∃ q, (s.toList == ([] : List UInt8)) = q := ⟨_, rfl⟩
        have hqn : (s.toList != ([] : List UInt8)) = !qe := by rw [bne, hqe]
        clear hqs
        cases qe
        · have hqn2 : (s.toList != ([] : List UInt8)) = true := hqn
          clear hqn
          go_wp2_with (go_at_call 61; (with_reducible refine (HNA.out _).mono ?_); rintro e' z ⟨rfl, hy⟩; have HUZ := Lib.hid (HUY.out.trans hy); have HBZ := Lib.hid (HBY.out.up hy); clear hy)
          all_goals first
            | (go_ret; exact ⟨_, rfl, HUZ.out, fun _ => trivial⟩)
            | (go_roundw
               case rel => exact ⟨i + 1, by go_num, by omega, HUZ.out, HBZ.out⟩
               case measure => simp [intOf]; omega)
        · have hqn2 : (s.toList != ([] : List UInt8)) = false := hqn
          clear hqn
          go_wp2
          go_roundw
          case rel => exact ⟨i + 1, by go_num, by omega, HUY.out, HBY.out⟩
          case measure => simp [intOf]; omega
      · have hltI : ¬ (i : Int) < xn := by omega
        go_wp2
        go_ret
        exact ⟨_, rfl, HUY.out, fun _ => trivial⟩

  · cases qn
    · go_wp2_with (go_at_call 61; (with_reducible refine (HNA.out _).mono ?_); rintro e' W1 ⟨rfl, hy⟩; have HV := Lib.hid (HU.out.trans hy); have HBV := Lib.hid (HB.out.up hy); clear hy)
      go_ret
      exact ⟨_, rfl, HV.out, fun _ => trivial⟩
    · go_wp2_with (go_at_call 61; (with_reducible refine (HNA.out _).mono ?_); rintro e' W1 ⟨rfl, hy⟩; have HV := Lib.hid (HU.out.trans hy); have HBV := Lib.hid (HB.out.up hy); clear hy)
      clear HU HB HNA
      go_wp2
      go_loopw [3] (fun iv y => ∃ i : Nat, iv = .int .i64 i ∧ i ≤ xn ∧ Up w y ∧ BoxC y w.heap.size 48 #[.int .i64 op, .string nm, .int .i64 A, .int .i64 d, .int .i64 t0, .int .i64 t1, .int .i64 t2, .int .i64 t3, .int .i64 t4, .int .i64 K, .slice la ln lc, .slice xa xn xc, .slice ra rn rc]) (fun iv _ => xn - (intOf iv).toNat)
      case atStart => exact ⟨0, rfl, Nat.zero_le _, HV.out, HBV.out⟩
      case round =>
        rename World => y
        obtain ⟨i, rfl, hi, hup, hb⟩ := hrel
        have HUY := Lib.hid hup
        have HBY := Lib.hid hb
        have b11 : y.cell? ⟨w.heap.size, 11, none⟩ = some (.slice xa xn xc) := cell_of_row _ _ _ _ _ _ hb
        have bs := hb.lt
        clear hup hb
        by_cases hlt : i < xn
        · have hltI : (i : Int) < xn := by omega
          have hi1 : i < ix.length := by rw [HXN.out]; exact hlt
          obtain ⟨g, o, ya, yc, ta, tc, rfl, hg, c0, c1, c2, c3, -, -, -⟩ := HX.out.ix4 i hi1
          obtain ⟨s, hs⟩ : ∃ q, ix[i].2.1 = q := ⟨_, rfl⟩
          rw [hs] at c2
          replace c2 := cell_up' HUY.out hg c2
          have gs := Nat.lt_of_lt_of_le hg HUY.out.size
          clear hi1 hg hs c0 c1 c3
          obtain ⟨qs, hqs⟩ : ∃ q, nameB s.toList = q := ⟨_, rfl⟩
          have HNA := Lib.hid (fun y => base_Name s y)
          rw [hqs] at HNA
          obtain ⟨qe, hqe⟩ : ∃ q, (s.toList == ([] : List UInt8)) = q := ⟨_, rfl⟩
          have hqn : (s.toList != ([] : List UInt8)) = !qe := by rw [bne, hqe]
          clear hqs
          cases qe
          · have hqn2 : (s.toList != ([] : List UInt8)) = true := hqn
            clear hqn
            go_wp2_with (go_at_call 61; (with_reducible refine (HNA.out _).mono ?_); rintro e' z ⟨rfl, hy⟩; have HUZ := Lib.hid (HUY.out.trans hy); have HBZ := Lib.hid (HBY.out.up hy); clear hy)
            all_goals first
              | (go_ret; exact ⟨_, rfl, HUZ.out, fun _ => trivial⟩)
              | (go_roundw
                 case rel => exact ⟨i + 1, by go_num, by omega, HUZ.out, HBZ.out⟩
                 case measure => simp [intOf]; omega)
          · have hqn2 : (s.toList != ([] : List UInt8)) = false := hqn
            clear hqn
            go_wp2
            go_roundw
            case rel => exact ⟨i + 1, by go_num, by omega, HUY.out, HBY.out⟩
            case measure => simp [intOf]; omega
        · have hltI : ¬ (i : Int) < xn := by omega
          go_wp2
          go_ret
          exact ⟨_, rfl, HUY.out, fun _ => trivial⟩

def argE : Ex → List Ex | .mk _ _ _ _ _ _ _ args => args
def tyE : Ex → Typ | .mk _ _ _ _ ty _ _ _ => ty
set_option maxHeartbeats 16000000 in
theorem r14_ranked (N : Nat) (e : Ex) (v : Value) (w : World) (hv : ExAt (N + 1) w v e) :
    Calls Tryz.prog 87 #[v] w fun e' w' => BoolQ (((argE e).length : Int) = argsN (opE e)) w e' w' := by
  obtain ⟨op, nm, A, d, t0, t1, t2, t3, t4, K, la, lc, xa, xc, ra, rc, ms, ix, args, rfl, rfl, hnm, hL, hX, hR⟩ := hv.open
  obtain ⟨ln, hln⟩ : ∃ q, ms.length = q := ⟨_, rfl⟩
  obtain ⟨xn, hxn⟩ : ∃ q, ix.length = q := ⟨_, rfl⟩
  obtain ⟨rn, hrn⟩ : ∃ q, args.length = q := ⟨_, rfl⟩
  have hlnI : (ln : Int) ≤ 140737488351232 := by have := hL.bytes; omega
  have hxnI : (xn : Int) ≤ 140737488351232 := by have := hX.bytes; omega
  have hrnI : (rn : Int) ≤ 140737488351232 := by have := hR.bytes; omega
  rw [hln] at hL
  rw [hxn] at hX
  rw [hrn] at hR
  rw [hln, hxn, hrn]
  have HL := Lib.hid hL
  have HX := Lib.hid hX
  have HR := Lib.hid hR
  have HLN := Lib.hid hln
  have HXN := Lib.hid hxn
  have HRN := Lib.hid hrn
  have HNM := Lib.hid hnm
  have HU := Lib.hid ((Up.refl w).alloc (.cells #[.int .i64 op, .string nm, .int .i64 A, .int .i64 d, .int .i64 t0, .int .i64 t1, .int .i64 t2, .int .i64 t3, .int .i64 t4, .int .i64 K, .slice la ln lc, .slice xa xn xc, .slice ra rn rc] 48))
  have HB := Lib.hid (BoxC.new w 48 #[.int .i64 op, .string nm, .int .i64 A, .int .i64 d, .int .i64 t0, .int .i64 t1, .int .i64 t2, .int .i64 t3, .int .i64 t4, .int .i64 K, .slice la ln lc, .slice xa xn xc, .slice ra rn rc])
  clear hL hX hR hln hxn hrn hnm

  clear hv
  show Calls _ _ _ _ fun e' w' => BoolQ ((args.length : Int) = argsN op) w e' w'
  obtain ⟨an, han⟩ : ∃ q, argsN op = q := ⟨_, rfl⟩
  have HAN := Lib.hid han
  rw [HRN.out, han]
  have HAR := Lib.hid (fun y => r14_args op y an HAN.out)
  clear han
  by_cases hr : (rn : Int) = an
  · have HRA := Lib.hid hr
    have e1 : ((rn : Int) == an) = true := by simpa using hr
    have e2 : ((rn : Int) != an) = false := by simpa using hr
    clear hr
    by_cases hx : (6 : Int) < xn
    · have ed : decide ((6 : Int) < xn) = true := decide_eq_true hx
      go_enter Tryz.func87, Tryz.ntmps87
      go_upto_region 1 with fail
      refine wp_region_ext (by kernel_rfl) (by kernel_rfl) ?_
      repeat (go_big_quiet_step ((go_at_call 101; exact Calls.ext_of (HAR.out _))))
      refine wpQuiet_nil ?_
      intro y hy
      go_wp2
      go_ret
      exact ⟨_, rfl, HU.out.trans hy, fun h => by cases h⟩
    · have ed : decide ((6 : Int) < xn) = false := decide_eq_false hx
      go_enter Tryz.func87, Tryz.ntmps87
      go_upto_region 1 with fail
      refine wp_region_ext (by kernel_rfl) (by kernel_rfl) ?_
      repeat (go_big_quiet_step ((go_at_call 101; exact Calls.ext_of (HAR.out _))))
      refine wpQuiet_nil ?_
      intro W1 hy
      have HV := Lib.hid (HU.out.trans hy)
      have HBV := Lib.hid (HB.out.up hy)
      clear hy HU HB e1 e2 ed
      go_wp2
      go_loopw [3] (fun iv y => ∃ i : Nat, iv = .int .i64 i ∧ i ≤ xn ∧ Up w y ∧ BoxC y w.heap.size 48 #[.int .i64 op, .string nm, .int .i64 A, .int .i64 d, .int .i64 t0, .int .i64 t1, .int .i64 t2, .int .i64 t3, .int .i64 t4, .int .i64 K, .slice la ln lc, .slice xa xn xc, .slice ra rn rc]) (fun iv _ => xn - (intOf iv).toNat)
      case atStart => exact ⟨0, rfl, Nat.zero_le _, HV.out, HBV.out⟩
      case round =>
        rename World => y
        obtain ⟨i, rfl, hi, hup, hb⟩ := hrel
        have HUY := Lib.hid hup
        have HBY := Lib.hid hb
        have b11 : y.cell? ⟨w.heap.size, 11, none⟩ = some (.slice xa xn xc) := cell_of_row _ _ _ _ _ _ hb
        have bs := hb.lt
        clear hup hb
        by_cases hlt : i < xn
        · have hltI : (i : Int) < xn := by omega
          have hi1 : i < ix.length := by rw [HXN.out]; exact hlt
          obtain ⟨g, o, ya, yc, ta, tc, rfl, hg, c0, c1, c2, c3, -, -, -⟩ := HX.out.ix4 i hi1
          obtain ⟨tn, htn⟩ : ∃ q, ix[i].2.2.length = q := ⟨_, rfl⟩
          rw [htn] at c3
          replace c3 := cell_up' HUY.out hg c3
          have gs := Nat.lt_of_lt_of_le hg HUY.out.size
          clear hi1 hg htn c0 c1 c2
          go_wp2
          all_goals first
            | (go_ret; exact ⟨_, rfl, HUY.out, fun h => by cases h⟩)
            | (go_roundw
               case rel => exact ⟨i + 1, by go_num, by omega, HUY.out, HBY.out⟩
               case measure => simp [intOf]; omega)
        · have hltI : ¬ (i : Int) < xn := by omega
          go_wp2
          go_ret
          exact ⟨_, rfl, HUY.out, fun _ => HRA.out⟩
  · have e1 : ((rn : Int) == an) = false := by simpa using hr
    have e2 : ((rn : Int) != an) = true := by simpa using hr
    clear hr
    go_enter Tryz.func87, Tryz.ntmps87
    go_upto_region 1 with fail
    refine wp_region_ext (by kernel_rfl) (by kernel_rfl) ?_
    repeat (go_big_quiet_step ((go_at_call 101; exact Calls.ext_of (HAR.out _))))
    refine wpQuiet_nil ?_
    intro y hy
    go_wp2
    go_ret
    exact ⟨_, rfl, HU.out.trans hy, fun h => by cases h⟩
end Go.Proofs.YtpccaifhcmcegaaGreat
end

section
namespace Go.Proofs.YtpccaifhcmcegaaGreat
set_option linter.unusedSimpArgs false
open Go.ChangeShapes Go.WideShapes Go.ChangeAt Go.RowKit
set_option linter.unusedVariables false
set_option maxRecDepth 100000

set_option maxHeartbeats 16000000 in
theorem r14_typed (N : Nat) (e : Ex) (v : Value) (w : World) (hv : ExAt (N + 1) w v e) :
    Calls Tryz.prog 88 #[v] w fun e' w' => BoolQ (opE e = 1 → typB (tyE e) = true) w e' w' := by
  obtain ⟨op, nm, A, d, t0, t1, t2, t3, t4, K, la, lc, xa, xc, ra, rc, ms, ix, args, rfl, rfl, hnm, hL, hX, hR⟩ := hv.open
  obtain ⟨ln, hln⟩ : ∃ q, ms.length = q := ⟨_, rfl⟩
  obtain ⟨xn, hxn⟩ : ∃ q, ix.length = q := ⟨_, rfl⟩
  obtain ⟨rn, hrn⟩ : ∃ q, args.length = q := ⟨_, rfl⟩
  have hlnI : (ln : Int) ≤ 140737488351232 := by have := hL.bytes; omega
  have hxnI : (xn : Int) ≤ 140737488351232 := by have := hX.bytes; omega
  have hrnI : (rn : Int) ≤ 140737488351232 := by have := hR.bytes; omega
  rw [hln] at hL
  rw [hxn] at hX
  rw [hrn] at hR
  rw [hln, hxn, hrn]
  have HL := Lib.hid hL
  have HX := Lib.hid hX
  have HR := Lib.hid hR
  have HLN := Lib.hid hln
  have HXN := Lib.hid hxn
  have HRN := Lib.hid hrn
  have HNM := Lib.hid hnm
  have HU := Lib.hid ((Up.refl w).alloc (.cells #[.int .i64 op, .string nm, .int .i64 A, .int .i64 d, .int .i64 t0, .int .i64 t1, .int .i64 t2, .int .i64 t3, .int .i64 t4, .int .i64 K, .slice la ln lc, .slice xa xn xc, .slice ra rn rc] 48))
  have HB := Lib.hid (BoxC.new w 48 #[.int .i64 op, .string nm, .int .i64 A, .int .i64 d, .int .i64 t0, .int .i64 t1, .int .i64 t2, .int .i64 t3, .int .i64 t4, .int .i64 K, .slice la ln lc, .slice xa xn xc, .slice ra rn rc])
  clear hL hX hR hln hxn hrn hnm

  clear hv
  show Calls _ _ _ _ fun e' w' => BoolQ (op = 1 → typB (t0, t1, t2, t3, t4) = true) w e' w'
  obtain ⟨qt, hqt⟩ : ∃ q, typB (t0, t1, t2, t3, t4) = q := ⟨_, rfl⟩
  have HTY : Hid (∀ y, Calls Tryz.prog 43 #[.agg #[.int .i64 t0, .int .i64 t1, .int .i64 t2, .int .i64 t3, .int .i64 t4]] y fun e' w' => e' = .returned (.bool qt) ∧ Up y w') := Lib.hid (fun y => base_Type _ qt hqt y)
  rw [hqt]
  clear hqt
  obtain ⟨q1, hq1⟩ : ∃ q, (op == 1) = q := ⟨_, rfl⟩
  obtain ⟨q12, hq12⟩ : ∃ q, (op == 12) = q := ⟨_, rfl⟩
  have HGO : Hid (∀ W1 : World, Up w W1 → BoxC W1 w.heap.size 48 #[.int .i64 op, .string nm, .int .i64 A, .int .i64 d, .int .i64 t0, .int .i64 t1, .int .i64 t2, .int .i64 t3, .int .i64 t4, .int .i64 K, .slice la ln lc, .slice xa xn xc, .slice ra rn rc] → True) := Lib.hid fun _ _ _ => trivial
  have HT0 : Hid (q1 = false ∨ qt = true → op = 1 → qt = true) := Lib.hid (fun h h1 => h.elim (fun h => by rw [h, h1] at hq1; cases hq1) id)
  cases q1
  · have HT : Hid (op = 1 → qt = true) := Lib.hid (HT0.out (.inl rfl))
    clear HT0 HGO
    cases q12
    · go_enter Tryz.func88, Tryz.ntmps88
      go_wp2
      have HV := Lib.hid HU.out
      have HBV := Lib.hid HB.out
      clear HU HB HTY hq1 hq12
      generalize w.alloc (.cells #[.int .i64 op, .string nm, .int .i64 A, .int .i64 d, .int .i64 t0, .int .i64 t1, .int .i64 t2, .int .i64 t3, .int .i64 t4, .int .i64 K, .slice la ln lc, .slice xa xn xc, .slice ra rn rc] 48) = W1 at *
      go_loopw [3] (fun iv y => ∃ i : Nat, iv = .int .i64 i ∧ i ≤ rn ∧ Up w y ∧ BoxC y w.heap.size 48 #[.int .i64 op, .string nm, .int .i64 A, .int .i64 d, .int .i64 t0, .int .i64 t1, .int .i64 t2, .int .i64 t3, .int .i64 t4, .int .i64 K, .slice la ln lc, .slice xa xn xc, .slice ra rn rc]) (fun iv _ => rn - (intOf iv).toNat)
      case atStart => exact ⟨0, rfl, Nat.zero_le _, HV.out, HBV.out⟩
      case round =>
        rename World => y
        obtain ⟨i, rfl, hi, hup, hb⟩ := hrel
        have HUY := Lib.hid hup
        have HBY := Lib.hid hb
        have b12 : y.cell? ⟨w.heap.size, 12, none⟩ = some (.slice ra rn rc) := cell_of_row _ _ _ _ _ _ hb
        have b0 : y.cell? ⟨w.heap.size, 0, none⟩ = some (.int .i64 op) := cell_of_row _ _ _ _ _ _ hb
        have bs := hb.lt
        clear hup hb
        by_cases hlt : i < rn
        · have hltI : (i : Int) < rn := by omega
          have hi1 : i < args.length := by rw [HRN.out]; exact hlt
          obtain ⟨ga, oa, cs, rfl, hga, hca, hra⟩ := HR.out.row (exR_k N) i hi1
          have gas := Nat.lt_of_lt_of_le hga HUY.out.size
          have HLD := Lib.hid (fun z (hz : Up w z) => run_ex hca.1 (hra z hz))
          obtain ⟨qc, hqc⟩ : ∃ q, condB (opE args[i]) = q := ⟨_, rfl⟩
          have HIC := Lib.hid (fun z (hz : Up w z) => r14_IsCondition N args[i] (.agg cs) z (hca.ex.up hz) qc hqc)
          have HWA := Lib.hid (fun z => r14_wants op i z)
          obtain ⟨qw, hqw⟩ : ∃ q, ((decide (op = 11) && decide ((i : Int) = 0)) || decide (op = 16) || decide (op = 17) || decide (op = 18)) = q := ⟨_, rfl⟩
          rw [hqw] at HWA
          clear hi1 hra hca hga hqc hqw
          cases qc <;> cases qw
          all_goals
            go_upto_region 6 with fail
            refine wp_region_ext (by kernel_rfl) (by kernel_rfl) ?_
            iterate 4 (go_big_quiet_step (fail))
            refine wpQuiet_load (fun z hz => by obtain ⟨j, rfl⟩ := hz; exact HLD.out _ (HUY.out.trans j.up)) (by rfl) ?_
            simp only [Act.put, List.setIfInBounds_toArray, List.set_cons_succ, List.set_cons_zero]
            repeat (go_big_quiet_step (first | (go_at_call 63; exact Calls.ext_of (HIC.out _ (HUY.out.trans (Ext.up _)))) | (go_at_call 102; exact Calls.ext_of (HWA.out _))))
            refine wpQuiet_nil ?_
            intro z hz
            have HUZ := Lib.hid (HUY.out.trans hz)
            have HBZ := Lib.hid (HBY.out.up hz)
            clear hz gas b12 b0 bs
            go_wp2
            first
              | (go_ret; exact ⟨_, rfl, HUZ.out, fun h => by cases h⟩)
              | (go_roundw
                 case rel => exact ⟨i + 1, by go_num, by omega, HUZ.out, HBZ.out⟩
                 case measure => simp [intOf]; omega)
        · have hltI : ¬ (i : Int) < rn := by omega
          go_wp2
          go_ret
          exact ⟨_, rfl, HUY.out, by first | exact fun _ => HT.out | exact fun _ => trivial⟩
    · cases qt
      · go_enter Tryz.func88, Tryz.ntmps88
        go_wp2_with (go_at_call 43; (with_reducible refine (HTY.out _).mono ?_); rintro e' W1 ⟨rfl, hy⟩; have HV := Lib.hid (HU.out.trans hy); clear hy)
        go_ret
        exact ⟨_, rfl, HV.out, fun h => by cases h⟩
      · go_enter Tryz.func88, Tryz.ntmps88
        go_wp2_with (go_at_call 43; (with_reducible refine (HTY.out _).mono ?_); rintro e' W1 ⟨rfl, hy⟩; have HV := Lib.hid (HU.out.trans hy); have HBV := Lib.hid (HB.out.up hy); clear hy)
        clear HU HB HTY hq1 hq12
        go_loopw [3] (fun iv y => ∃ i : Nat, iv = .int .i64 i ∧ i ≤ rn ∧ Up w y ∧ BoxC y w.heap.size 48 #[.int .i64 op, .string nm, .int .i64 A, .int .i64 d, .int .i64 t0, .int .i64 t1, .int .i64 t2, .int .i64 t3, .int .i64 t4, .int .i64 K, .slice la ln lc, .slice xa xn xc, .slice ra rn rc]) (fun iv _ => rn - (intOf iv).toNat)
        case atStart => exact ⟨0, rfl, Nat.zero_le _, HV.out, HBV.out⟩
        case round =>
          rename World => y
          obtain ⟨i, rfl, hi, hup, hb⟩ := hrel
          have HUY := Lib.hid hup
          have HBY := Lib.hid hb
          have b12 : y.cell? ⟨w.heap.size, 12, none⟩ = some (.slice ra rn rc) := cell_of_row _ _ _ _ _ _ hb
          have b0 : y.cell? ⟨w.heap.size, 0, none⟩ = some (.int .i64 op) := cell_of_row _ _ _ _ _ _ hb
          have bs := hb.lt
          clear hup hb
          by_cases hlt : i < rn
          · have hltI : (i : Int) < rn := by omega
            have hi1 : i < args.length := by rw [HRN.out]; exact hlt
            obtain ⟨ga, oa, cs, rfl, hga, hca, hra⟩ := HR.out.row (exR_k N) i hi1
            have gas := Nat.lt_of_lt_of_le hga HUY.out.size
            have HLD := Lib.hid (fun z (hz : Up w z) => run_ex hca.1 (hra z hz))
            obtain ⟨qc, hqc⟩ : ∃ q, condB (opE args[i]) = q := ⟨_, rfl⟩
            have HIC := Lib.hid (fun z (hz : Up w z) => r14_IsCondition N args[i] (.agg cs) z (hca.ex.up hz) qc hqc)
            have HWA := Lib.hid (fun z => r14_wants op i z)
            obtain ⟨qw, hqw⟩ : ∃ q, ((decide (op = 11) && decide ((i : Int) = 0)) || decide (op = 16) || decide (op = 17) || decide (op = 18)) = q := ⟨_, rfl⟩
            rw [hqw] at HWA
            clear hi1 hra hca hga hqc hqw
            cases qc <;> cases qw
            all_goals
              go_upto_region 6 with fail
              refine wp_region_ext (by kernel_rfl) (by kernel_rfl) ?_
              iterate 4 (go_big_quiet_step (fail))
              refine wpQuiet_load (fun z hz => by obtain ⟨j, rfl⟩ := hz; exact HLD.out _ (HUY.out.trans j.up)) (by rfl) ?_
              simp only [Act.put, List.setIfInBounds_toArray, List.set_cons_succ, List.set_cons_zero]
              repeat (go_big_quiet_step (first | (go_at_call 63; exact Calls.ext_of (HIC.out _ (HUY.out.trans (Ext.up _)))) | (go_at_call 102; exact Calls.ext_of (HWA.out _))))
              refine wpQuiet_nil ?_
              intro z hz
              have HUZ := Lib.hid (HUY.out.trans hz)
              have HBZ := Lib.hid (HBY.out.up hz)
              clear hz gas b12 b0 bs
              go_wp2
              first
                | (go_ret; exact ⟨_, rfl, HUZ.out, fun h => by cases h⟩)
                | (go_roundw
                   case rel => exact ⟨i + 1, by go_num, by omega, HUZ.out, HBZ.out⟩
                   case measure => simp [intOf]; omega)
          · have hltI : ¬ (i : Int) < rn := by omega
            go_wp2
            go_ret
            exact ⟨_, rfl, HUY.out, by first | exact fun _ => HT.out | exact fun _ => trivial⟩
  · cases qt
    · go_enter Tryz.func88, Tryz.ntmps88
      go_wp2_with (go_at_call 43; (with_reducible refine (HTY.out _).mono ?_); rintro e' W1 ⟨rfl, hy⟩; have HV := Lib.hid (HU.out.trans hy); clear hy)
      go_ret
      exact ⟨_, rfl, HV.out, fun h => by cases h⟩
    · have HT : Hid (op = 1 → true = true) := Lib.hid (fun _ => rfl)
      clear HT0 HGO
      go_enter Tryz.func88, Tryz.ntmps88
      go_wp2_with (go_at_call 43; (with_reducible refine (HTY.out _).mono ?_); rintro e' W1 ⟨rfl, hy⟩; have HV := Lib.hid (HU.out.trans hy); have HBV := Lib.hid (HB.out.up hy); clear hy)
      clear HU HB HTY hq1 hq12
      go_loopw [3] (fun iv y => ∃ i : Nat, iv = .int .i64 i ∧ i ≤ rn ∧ Up w y ∧ BoxC y w.heap.size 48 #[.int .i64 op, .string nm, .int .i64 A, .int .i64 d, .int .i64 t0, .int .i64 t1, .int .i64 t2, .int .i64 t3, .int .i64 t4, .int .i64 K, .slice la ln lc, .slice xa xn xc, .slice ra rn rc]) (fun iv _ => rn - (intOf iv).toNat)
      case atStart => exact ⟨0, rfl, Nat.zero_le _, HV.out, HBV.out⟩
      case round =>
        rename World => y
        obtain ⟨i, rfl, hi, hup, hb⟩ := hrel
        have HUY := Lib.hid hup
        have HBY := Lib.hid hb
        have b12 : y.cell? ⟨w.heap.size, 12, none⟩ = some (.slice ra rn rc) := cell_of_row _ _ _ _ _ _ hb
        have b0 : y.cell? ⟨w.heap.size, 0, none⟩ = some (.int .i64 op) := cell_of_row _ _ _ _ _ _ hb
        have bs := hb.lt
        clear hup hb
        by_cases hlt : i < rn
        · have hltI : (i : Int) < rn := by omega
          have hi1 : i < args.length := by rw [HRN.out]; exact hlt
          obtain ⟨ga, oa, cs, rfl, hga, hca, hra⟩ := HR.out.row (exR_k N) i hi1
          have gas := Nat.lt_of_lt_of_le hga HUY.out.size
          have HLD := Lib.hid (fun z (hz : Up w z) => run_ex hca.1 (hra z hz))
          obtain ⟨qc, hqc⟩ : ∃ q, condB (opE args[i]) = q := ⟨_, rfl⟩
          have HIC := Lib.hid (fun z (hz : Up w z) => r14_IsCondition N args[i] (.agg cs) z (hca.ex.up hz) qc hqc)
          have HWA := Lib.hid (fun z => r14_wants op i z)
          obtain ⟨qw, hqw⟩ : ∃ q, ((decide (op = 11) && decide ((i : Int) = 0)) || decide (op = 16) || decide (op = 17) || decide (op = 18)) = q := ⟨_, rfl⟩
          rw [hqw] at HWA
          clear hi1 hra hca hga hqc hqw
          cases qc <;> cases qw
          all_goals
            go_upto_region 6 with fail
            refine wp_region_ext (by kernel_rfl) (by kernel_rfl) ?_
            iterate 4 (go_big_quiet_step (fail))
            refine wpQuiet_load (fun z hz => by obtain ⟨j, rfl⟩ := hz; exact HLD.out _ (HUY.out.trans j.up)) (by rfl) ?_
            simp only [Act.put, List.setIfInBounds_toArray, List.set_cons_succ, List.set_cons_zero]
            repeat (go_big_quiet_step (first | (go_at_call 63; exact Calls.ext_of (HIC.out _ (HUY.out.trans (Ext.up _)))) | (go_at_call 102; exact Calls.ext_of (HWA.out _))))
            refine wpQuiet_nil ?_
            intro z hz
            have HUZ := Lib.hid (HUY.out.trans hz)
            have HBZ := Lib.hid (HBY.out.up hz)
            clear hz gas b12 b0 bs
            go_wp2
            first
              | (go_ret; exact ⟨_, rfl, HUZ.out, fun h => by cases h⟩)
              | (go_roundw
                 case rel => exact ⟨i + 1, by go_num, by omega, HUZ.out, HBZ.out⟩
                 case measure => simp [intOf]; omega)
        · have hltI : ¬ (i : Int) < rn := by omega
          go_wp2
          go_ret
          exact ⟨_, rfl, HUY.out, by first | exact fun _ => HT.out | exact fun _ => trivial⟩
end Go.Proofs.YtpccaifhcmcegaaGreat
end

section
namespace Go.Proofs.YtpccaifhcmcegaaGreat
set_option linter.unusedSimpArgs false
open Go.ChangeShapes Go.WideShapes Go.ChangeAt Go.RowKit
set_option linter.unusedVariables false
set_option maxRecDepth 100000

set_option maxHeartbeats 16000000 in
theorem r14_formed (N : Nat) (e : Ex) (v : Value) (w : World) (hv : ExAt (N + 1) w v e) (ht : opE e = 1 → typB (tyE e) = true) :
    Calls Tryz.prog 89 #[v] w fun e' w' => BoolQ True w e' w' := by
  obtain ⟨op, nm, A, d, t0, t1, t2, t3, t4, K, la, lc, xa, xc, ra, rc, ms, ix, args, rfl, rfl, hnm, hL, hX, hR⟩ := hv.open
  obtain ⟨ln, hln⟩ : ∃ q, ms.length = q := ⟨_, rfl⟩
  obtain ⟨xn, hxn⟩ : ∃ q, ix.length = q := ⟨_, rfl⟩
  obtain ⟨rn, hrn⟩ : ∃ q, args.length = q := ⟨_, rfl⟩
  have hlnI : (ln : Int) ≤ 140737488351232 := by have := hL.bytes; omega
  have hxnI : (xn : Int) ≤ 140737488351232 := by have := hX.bytes; omega
  have hrnI : (rn : Int) ≤ 140737488351232 := by have := hR.bytes; omega
  rw [hln] at hL
  rw [hxn] at hX
  rw [hrn] at hR
  rw [hln, hxn, hrn]
  have HL := Lib.hid hL
  have HX := Lib.hid hX
  have HR := Lib.hid hR
  have HLN := Lib.hid hln
  have HXN := Lib.hid hxn
  have HRN := Lib.hid hrn
  have HNM := Lib.hid hnm
  have HU := Lib.hid ((Up.refl w).alloc (.cells #[.int .i64 op, .string nm, .int .i64 A, .int .i64 d, .int .i64 t0, .int .i64 t1, .int .i64 t2, .int .i64 t3, .int .i64 t4, .int .i64 K, .slice la ln lc, .slice xa xn xc, .slice ra rn rc] 48))
  have HB := Lib.hid (BoxC.new w 48 #[.int .i64 op, .string nm, .int .i64 A, .int .i64 d, .int .i64 t0, .int .i64 t1, .int .i64 t2, .int .i64 t3, .int .i64 t4, .int .i64 K, .slice la ln lc, .slice xa xn xc, .slice ra rn rc])
  clear hL hX hR hln hxn hrn hnm

  clear hv
  have HTB : Hid (op = 1 → typB (t0, t1, t2, t3, t4) = true) := Lib.hid ht
  clear ht
  obtain ⟨ql, hql⟩ : ∃ q, okL ms = q := ⟨_, rfl⟩
  have HLR : Hid (∀ y, Up w y → Calls Tryz.prog 41 #[.agg #[.int .i64 K, .slice la ln lc]] y fun e w' => e = .returned (.bool ql) ∧ Up y w') := Lib.hid (fun y hy => hql ▸ base_LinRight' K _ ms y (HL.out.up monR_up hy))
  clear hql
  by_cases h1 : op = 1
  · have HVA : Hid (∀ y, Calls Tryz.prog 103 #[.agg #[.int .i64 t0, .int .i64 t1, .int .i64 t2, .int .i64 t3, .int .i64 t4], .agg #[.int .i64 A, .int .i64 d]] y fun e' w' => BoolQ True y e' w') := Lib.hid (fun y => base_Val (t0, t1, t2, t3, t4) (HTB.out h1) A d y)
    subst h1
    clear HTB
    go_enter Tryz.func89, Tryz.ntmps89
    go_wp2_with fail
    refine (HVA.out _).mono ?_
    rintro e' W0 ⟨b, rfl, hy, -⟩
    have HV0 := Lib.hid (HU.out.trans hy)
    have HBV0 := Lib.hid (HB.out.up hy)
    have c9 : W0.cell? ⟨w.heap.size, 9, none⟩ = some (.int .i64 K) := cell_of_row _ _ _ _ _ _ HBV0.out
    have c10 : W0.cell? ⟨w.heap.size, 10, none⟩ = some (.slice la ln lc) := cell_of_row _ _ _ _ _ _ HBV0.out
    have bs := HBV0.out.lt
    clear hy
    cases b
    · go_wp2
      go_ret
      exact ⟨_, rfl, HV0.out, fun _ => trivial⟩
    · cases ql
      · go_wp2_with (go_at_call 41; (with_reducible refine (HLR.out _ HV0.out).mono ?_); rintro e' W1 ⟨rfl, hy⟩; have HV := Lib.hid (HV0.out.trans hy); clear hy)
        go_ret
        exact ⟨_, rfl, HV.out, fun _ => trivial⟩
      · go_wp2_with (go_at_call 41; (with_reducible refine (HLR.out _ HV0.out).mono ?_); rintro e' W1 ⟨rfl, hy⟩; have HV := Lib.hid (HV0.out.trans hy); have HBV := Lib.hid (HBV0.out.up hy); clear hy)
        clear c9 c10 bs HU HB HLR HVA HV0 HBV0
        go_loopw [3] (fun iv y => ∃ i : Nat, iv = .int .i64 i ∧ i ≤ xn ∧ Up w y ∧ BoxC y w.heap.size 48 #[.int .i64 1, .string nm, .int .i64 A, .int .i64 d, .int .i64 t0, .int .i64 t1, .int .i64 t2, .int .i64 t3, .int .i64 t4, .int .i64 K, .slice la ln lc, .slice xa xn xc, .slice ra rn rc]) (fun iv _ => xn - (intOf iv).toNat)
        case atStart => exact ⟨0, rfl, Nat.zero_le _, HV.out, HBV.out⟩
        case round =>
          rename World => y
          obtain ⟨i, rfl, hi, hup, hb⟩ := hrel
          have HUY := Lib.hid hup
          have HBY := Lib.hid hb
          have b11 : y.cell? ⟨w.heap.size, 11, none⟩ = some (.slice xa xn xc) := cell_of_row _ _ _ _ _ _ hb
          have bs := hb.lt
          clear hup hb
          by_cases hlt : i < xn
          · have hltI : (i : Int) < xn := by omega
            have hi1 : i < ix.length := by rw [HXN.out]; exact hlt
            obtain ⟨g, o, ya, yc, ta, tc, rfl, hg, c0, c1, c2, c3, hlz, hat, -⟩ := HX.out.ix4 i hi1
            obtain ⟨K2, hK2⟩ : ∃ q, ix[i].1.1 = q := ⟨_, rfl⟩
            obtain ⟨zl, hzl⟩ : ∃ q, ix[i].1.2 = q := ⟨_, rfl⟩
            obtain ⟨tl, htl⟩ : ∃ q, ix[i].2.2 = q := ⟨_, rfl⟩
            rw [hK2] at c0
            rw [hzl] at c1 hlz
            rw [htl] at c3 hat
            obtain ⟨zn, hzn⟩ : ∃ q, zl.length = q := ⟨_, rfl⟩
            obtain ⟨tn, htn⟩ : ∃ q, tl.length = q := ⟨_, rfl⟩
            have htI : (tn : Int) ≤ 140737488351232 := by have := hat.bytes; omega
            rw [hzn] at c1 hlz
            rw [htn] at c3 hat
            have HC3 := Lib.hid (fun z (hz : Up w z) => cell_up' hz hg c3)
            have HAT := Lib.hid hat
            have HTN := Lib.hid htn
            replace c0 := cell_up' HUY.out hg c0
            replace c1 := cell_up' HUY.out hg c1
            have hg0 := Lib.hid hg
            have gs := Nat.lt_of_lt_of_le hg HUY.out.size
            obtain ⟨qz, hqz⟩ : ∃ q, okL zl = q := ⟨_, rfl⟩
            have HLZ : Hid (∀ y, Up w y → Calls Tryz.prog 41 #[.agg #[.int .i64 K2, .slice ya zn yc]] y fun e w' => e = .returned (.bool qz) ∧ Up y w') := Lib.hid (fun y hy => hqz ▸ base_LinRight' K2 _ zl y (hlz.up monR_up hy))
            clear hi1 hg hK2 hzl htl hzn htn c2 c3 hlz hat hqz
            cases qz
            · go_wp2_with (go_at_call 41; (with_reducible refine (HLZ.out _ HUY.out).mono ?_); rintro e' z ⟨rfl, hz⟩; have HUZ := Lib.hid (HUY.out.trans hz); clear hz)
              go_ret
              exact ⟨_, rfl, HUZ.out, fun _ => trivial⟩
            · go_wp2_with (go_at_call 41; (with_reducible refine (HLZ.out _ HUY.out).mono ?_); rintro e' z ⟨rfl, hz⟩; have HUZ := Lib.hid (HUY.out.trans hz); have HBZ := Lib.hid (HBY.out.up hz); clear hz)
              clear c0 c1 b11 bs gs HLZ
              go_loopw [4] (fun kv y => ∃ k : Nat, kv = .int .i64 k ∧ k ≤ tn ∧ Up w y ∧ BoxC y w.heap.size 48 #[.int .i64 1, .string nm, .int .i64 A, .int .i64 d, .int .i64 t0, .int .i64 t1, .int .i64 t2, .int .i64 t3, .int .i64 t4, .int .i64 K, .slice la ln lc, .slice (some ⟨g, o, none⟩) xn xc, .slice ra rn rc]) (fun kv _ => tn - (intOf kv).toNat)
              case atStart => exact ⟨0, rfl, Nat.zero_le _, HUZ.out, HBZ.out⟩
              case round =>
                rename World => y2
                obtain ⟨k, rfl, hk, hup, hb⟩ := hrel
                have HUY2 := Lib.hid hup
                have HBY2 := Lib.hid hb
                have b11 : y2.cell? ⟨w.heap.size, 11, none⟩ = some (.slice (some ⟨g, o, none⟩) xn xc) := cell_of_row _ _ _ _ _ _ hb
                have bs := hb.lt
                have c3 := HC3.out y2 hup
                have gs := Nat.lt_of_lt_of_le hg0.out hup.size
                clear hup hb
                by_cases hlk : k < tn
                · have hlkI : (k : Int) < tn := by omega
                  have hk1 : k < tl.length := by rw [HTN.out]; exact hlk
                  obtain ⟨g2, o2, za, zc, rfl, hg2, d0, d1, hlz⟩ := HAT.out.linc k hk1
                  obtain ⟨K3, hK3⟩ : ∃ q, tl[k].1 = q := ⟨_, rfl⟩
                  obtain ⟨zl, hzl⟩ : ∃ q, tl[k].2 = q := ⟨_, rfl⟩
                  rw [hK3] at d0
                  rw [hzl] at d1 hlz
                  obtain ⟨zn, hzn⟩ : ∃ q, zl.length = q := ⟨_, rfl⟩
                  rw [hzn] at d1 hlz
                  replace d0 := cell_up' HUY2.out hg2 d0
                  replace d1 := cell_up' HUY2.out hg2 d1
                  have gs2 := Nat.lt_of_lt_of_le hg2 HUY2.out.size
                  obtain ⟨qz, hqz⟩ : ∃ q, okL zl = q := ⟨_, rfl⟩
                  have HLZ : Hid (∀ y, Up w y → Calls Tryz.prog 41 #[.agg #[.int .i64 K3, .slice za zn zc]] y fun e w' => e = .returned (.bool qz) ∧ Up y w') := Lib.hid (fun y hy => hqz ▸ base_LinRight' K3 _ zl y (hlz.up monR_up hy))
                  clear hk1 hg2 hK3 hzl hzn hlz hqz
                  cases qz
                  · go_wp2_with (go_at_call 41; (with_reducible refine (HLZ.out _ HUY2.out).mono ?_); rintro e' z ⟨rfl, hz⟩; have HUZ2 := Lib.hid (HUY2.out.trans hz); clear hz)
                    go_ret
                    exact ⟨_, rfl, HUZ2.out, fun _ => trivial⟩
                  · go_wp2_with (go_at_call 41; (with_reducible refine (HLZ.out _ HUY2.out).mono ?_); rintro e' z ⟨rfl, hz⟩; have HUZ2 := Lib.hid (HUY2.out.trans hz); have HBZ2 := Lib.hid (HBY2.out.up hz); clear hz)
                    go_roundw
                    case rel => exact ⟨k + 1, by go_num, by omega, HUZ2.out, HBZ2.out⟩
                    case measure => simp [intOf]; omega
                · have hlkI : ¬ (k : Int) < tn := by omega
                  go_wp2
                  go_roundw
                  case rel => exact ⟨i + 1, by go_num, by omega, HUY2.out, HBY2.out⟩
                  case measure => simp [intOf]; omega
          · have hltI : ¬ (i : Int) < xn := by omega
            go_wp2
            go_ret
            exact ⟨_, rfl, HUY.out, fun _ => trivial⟩
  · have q1 : (op == 1) = false := by simpa using h1
    clear h1 HTB
    cases ql
    · go_enter Tryz.func89, Tryz.ntmps89
      go_wp2_with (go_at_call 41; (with_reducible refine (HLR.out _ HU.out).mono ?_); rintro e' W1 ⟨rfl, hy⟩; have HV := Lib.hid (HU.out.trans hy); clear hy)
      go_ret
      exact ⟨_, rfl, HV.out, fun _ => trivial⟩
    · go_enter Tryz.func89, Tryz.ntmps89
      go_wp2_with (go_at_call 41; (with_reducible refine (HLR.out _ HU.out).mono ?_); rintro e' W1 ⟨rfl, hy⟩; have HV := Lib.hid (HU.out.trans hy); have HBV := Lib.hid (HB.out.up hy); clear hy)
      clear HU HB HLR q1
      go_loopw [3] (fun iv y => ∃ i : Nat, iv = .int .i64 i ∧ i ≤ xn ∧ Up w y ∧ BoxC y w.heap.size 48 #[.int .i64 op, .string nm, .int .i64 A, .int .i64 d, .int .i64 t0, .int .i64 t1, .int .i64 t2, .int .i64 t3, .int .i64 t4, .int .i64 K, .slice la ln lc, .slice xa xn xc, .slice ra rn rc]) (fun iv _ => xn - (intOf iv).toNat)
      case atStart => exact ⟨0, rfl, Nat.zero_le _, HV.out, HBV.out⟩
      case round =>
        rename World => y
        obtain ⟨i, rfl, hi, hup, hb⟩ := hrel
        have HUY := Lib.hid hup
        have HBY := Lib.hid hb
        have b11 : y.cell? ⟨w.heap.size, 11, none⟩ = some (.slice xa xn xc) := cell_of_row _ _ _ _ _ _ hb
        have bs := hb.lt
        clear hup hb
        by_cases hlt : i < xn
        · have hltI : (i : Int) < xn := by omega
          have hi1 : i < ix.length := by rw [HXN.out]; exact hlt
          obtain ⟨g, o, ya, yc, ta, tc, rfl, hg, c0, c1, c2, c3, hlz, hat, -⟩ := HX.out.ix4 i hi1
          obtain ⟨K2, hK2⟩ : ∃ q, ix[i].1.1 = q := ⟨_, rfl⟩
          obtain ⟨zl, hzl⟩ : ∃ q, ix[i].1.2 = q := ⟨_, rfl⟩
          obtain ⟨tl, htl⟩ : ∃ q, ix[i].2.2 = q := ⟨_, rfl⟩
          rw [hK2] at c0
          rw [hzl] at c1 hlz
          rw [htl] at c3 hat
          obtain ⟨zn, hzn⟩ : ∃ q, zl.length = q := ⟨_, rfl⟩
          obtain ⟨tn, htn⟩ : ∃ q, tl.length = q := ⟨_, rfl⟩
          have htI : (tn : Int) ≤ 140737488351232 := by have := hat.bytes; omega
          rw [hzn] at c1 hlz
          rw [htn] at c3 hat
          have HC3 := Lib.hid (fun z (hz : Up w z) => cell_up' hz hg c3)
          have HAT := Lib.hid hat
          have HTN := Lib.hid htn
          replace c0 := cell_up' HUY.out hg c0
          replace c1 := cell_up' HUY.out hg c1
          have hg0 := Lib.hid hg
          have gs := Nat.lt_of_lt_of_le hg HUY.out.size
          obtain ⟨qz, hqz⟩ : ∃ q, okL zl = q := ⟨_, rfl⟩
          have HLZ : Hid (∀ y, Up w y → Calls Tryz.prog 41 #[.agg #[.int .i64 K2, .slice ya zn yc]] y fun e w' => e = .returned (.bool qz) ∧ Up y w') := Lib.hid (fun y hy => hqz ▸ base_LinRight' K2 _ zl y (hlz.up monR_up hy))
          clear hi1 hg hK2 hzl htl hzn htn c2 c3 hlz hat hqz
          cases qz
          · go_wp2_with (go_at_call 41; (with_reducible refine (HLZ.out _ HUY.out).mono ?_); rintro e' z ⟨rfl, hz⟩; have HUZ := Lib.hid (HUY.out.trans hz); clear hz)
            go_ret
            exact ⟨_, rfl, HUZ.out, fun _ => trivial⟩
          · go_wp2_with (go_at_call 41; (with_reducible refine (HLZ.out _ HUY.out).mono ?_); rintro e' z ⟨rfl, hz⟩; have HUZ := Lib.hid (HUY.out.trans hz); have HBZ := Lib.hid (HBY.out.up hz); clear hz)
            clear c0 c1 b11 bs gs HLZ
            go_loopw [4] (fun kv y => ∃ k : Nat, kv = .int .i64 k ∧ k ≤ tn ∧ Up w y ∧ BoxC y w.heap.size 48 #[.int .i64 op, .string nm, .int .i64 A, .int .i64 d, .int .i64 t0, .int .i64 t1, .int .i64 t2, .int .i64 t3, .int .i64 t4, .int .i64 K, .slice la ln lc, .slice (some ⟨g, o, none⟩) xn xc, .slice ra rn rc]) (fun kv _ => tn - (intOf kv).toNat)
            case atStart => exact ⟨0, rfl, Nat.zero_le _, HUZ.out, HBZ.out⟩
            case round =>
              rename World => y2
              obtain ⟨k, rfl, hk, hup, hb⟩ := hrel
              have HUY2 := Lib.hid hup
              have HBY2 := Lib.hid hb
              have b11 : y2.cell? ⟨w.heap.size, 11, none⟩ = some (.slice (some ⟨g, o, none⟩) xn xc) := cell_of_row _ _ _ _ _ _ hb
              have bs := hb.lt
              have c3 := HC3.out y2 hup
              have gs := Nat.lt_of_lt_of_le hg0.out hup.size
              clear hup hb
              by_cases hlk : k < tn
              · have hlkI : (k : Int) < tn := by omega
                have hk1 : k < tl.length := by rw [HTN.out]; exact hlk
                obtain ⟨g2, o2, za, zc, rfl, hg2, d0, d1, hlz⟩ := HAT.out.linc k hk1
                obtain ⟨K3, hK3⟩ : ∃ q, tl[k].1 = q := ⟨_, rfl⟩
                obtain ⟨zl, hzl⟩ : ∃ q, tl[k].2 = q := ⟨_, rfl⟩
                rw [hK3] at d0
                rw [hzl] at d1 hlz
                obtain ⟨zn, hzn⟩ : ∃ q, zl.length = q := ⟨_, rfl⟩
                rw [hzn] at d1 hlz
                replace d0 := cell_up' HUY2.out hg2 d0
                replace d1 := cell_up' HUY2.out hg2 d1
                have gs2 := Nat.lt_of_lt_of_le hg2 HUY2.out.size
                obtain ⟨qz, hqz⟩ : ∃ q, okL zl = q := ⟨_, rfl⟩
                have HLZ : Hid (∀ y, Up w y → Calls Tryz.prog 41 #[.agg #[.int .i64 K3, .slice za zn zc]] y fun e w' => e = .returned (.bool qz) ∧ Up y w') := Lib.hid (fun y hy => hqz ▸ base_LinRight' K3 _ zl y (hlz.up monR_up hy))
                clear hk1 hg2 hK3 hzl hzn hlz hqz
                cases qz
                · go_wp2_with (go_at_call 41; (with_reducible refine (HLZ.out _ HUY2.out).mono ?_); rintro e' z ⟨rfl, hz⟩; have HUZ2 := Lib.hid (HUY2.out.trans hz); clear hz)
                  go_ret
                  exact ⟨_, rfl, HUZ2.out, fun _ => trivial⟩
                · go_wp2_with (go_at_call 41; (with_reducible refine (HLZ.out _ HUY2.out).mono ?_); rintro e' z ⟨rfl, hz⟩; have HUZ2 := Lib.hid (HUY2.out.trans hz); have HBZ2 := Lib.hid (HBY2.out.up hz); clear hz)
                  go_roundw
                  case rel => exact ⟨k + 1, by go_num, by omega, HUZ2.out, HBZ2.out⟩
                  case measure => simp [intOf]; omega
              · have hlkI : ¬ (k : Int) < tn := by omega
                go_wp2
                go_roundw
                case rel => exact ⟨i + 1, by go_num, by omega, HUY2.out, HBY2.out⟩
                case measure => simp [intOf]; omega
        · have hltI : ¬ (i : Int) < xn := by omega
          go_wp2
          go_ret
          exact ⟨_, rfl, HUY.out, fun _ => trivial⟩
end Go.Proofs.YtpccaifhcmcegaaGreat
end
