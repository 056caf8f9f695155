/-
  The reference 14: plain. Printed by mkSoC.py.
-/
import Derived.Test.YtpccaifhcmcegaaGreatHu
namespace Go.Proofs.YtpccaifhcmcegaaGreat
set_option linter.unusedSimpArgs false
open Go.ChangeShapes Go.WideShapes Go.ChangeAt Go.RowKit
set_option linter.unusedVariables false
set_option maxRecDepth 100000


theorem run_neq_val (a b : Int) : ∃ q : Bool, ∀ w : World, (binOp .neq 41 (.agg #[.int .i64 a, .int .i64 b]) (.agg #[.int .i64 0, .int .i64 0])).run Tryz.prog w = .ok (.bool q) w := by
  refine ⟨!(decide (a = 0 ∧ b = 0)), fun w => ?_⟩
  rw [run_neq_struct]
  go_simp
  (repeat' split) <;> simp_all
theorem run_neq_typ0 (a b c d e : Int) : ∃ q : Bool, ∀ w : World, (binOp .neq 38 (.agg #[.int .i64 a, .int .i64 b, .int .i64 c, .int .i64 d, .int .i64 e]) (.agg #[.int .i64 0, .int .i64 0, .int .i64 0, .int .i64 0, .int .i64 0])).run Tryz.prog w = .ok (.bool q) w := by
  refine ⟨!(decide (a = 0 ∧ b = 0 ∧ c = 0 ∧ d = 0 ∧ e = 0)), fun w => ?_⟩
  rw [run_neq_struct]
  go_simp
  (repeat' split) <;> simp_all
/-- What plain grants. -/
def PlainP (op : Int) (ix : List Ix) : Prop := 1 ≤ op ∧ op ≤ 18 ∧ (op ≠ 3 → ix = [])
set_option maxHeartbeats 16000000 in
theorem r14_plain (N : Nat) (e : Ex) (v : Value) (w : World) (hv : ExAt (N + 1) w v e) :
    Calls Tryz.prog 85 #[v] w fun e' w' => BoolQ (PlainP (opE e) (ixE e)) w e' w' := by
  obtain ⟨op, nm, A, d, t0, t1, t2, t3, t4, K, la, lc, xa, xc, ra, rc, ms, ix, args, rfl, rfl, hnm, hL, hX, hR⟩ := hv.open
  obtain ⟨ln, hln⟩ : ∃ q, ms.length = q := ⟨_, rfl⟩
  obtain ⟨xn, hxn⟩ : ∃ q, ix.length = q := ⟨_, rfl⟩
  obtain ⟨rn, hrn⟩ : ∃ q, args.length = q := ⟨_, rfl⟩
  have hlnI : (ln : Int) ≤ 140737488351232 := by have := hL.bytes; omega
  have hxnI : (xn : Int) ≤ 140737488351232 := by have := hX.bytes; omega
  have hrnI : (rn : Int) ≤ 140737488351232 := by have := hR.bytes; omega
  rw [hln] at hL
  rw [hxn] at hX
  rw [hrn] at hR
  rw [hln, hxn, hrn]
  have HL := Lib.hid hL
  have HX := Lib.hid hX
  have HR := Lib.hid hR
  have HLN := Lib.hid hln
  have HXN := Lib.hid hxn
  have HRN := Lib.hid hrn
  have HNM := Lib.hid hnm
  have HU := Lib.hid ((Up.refl w).alloc (.cells #[.int .i64 op, .string nm, .int .i64 A, .int .i64 d, .int .i64 t0, .int .i64 t1, .int .i64 t2, .int .i64 t3, .int .i64 t4, .int .i64 K, .slice la ln lc, .slice xa xn xc, .slice ra rn rc] 48))
  have HB := Lib.hid (BoxC.new w 48 #[.int .i64 op, .string nm, .int .i64 A, .int .i64 d, .int .i64 t0, .int .i64 t1, .int .i64 t2, .int .i64 t3, .int .i64 t4, .int .i64 K, .slice la ln lc, .slice xa xn xc, .slice ra rn rc])
  clear hL hX hR hln hxn hrn hnm

  clear hv
  show Calls _ _ _ _ fun e' w' => BoolQ (PlainP op ix) w e' w'
  obtain ⟨qv, hv1⟩ := run_neq_val A d
  obtain ⟨qt, ht1⟩ := run_neq_typ0 t0 t1 t2 t3 t4
  obtain ⟨qk, hqk⟩ : ∃ q, (K != 0) = q := ⟨_, rfl⟩
  obtain ⟨qe, hqe⟩ : ∃ q, (nm.toList == ([] : List UInt8)) = q := ⟨_, rfl⟩
  have hqn : (nm.toList != ([] : List UInt8)) = !qe := by rw [bne, hqe]
  by_cases hlo : op < 1
  · go_enter Tryz.func85, Tryz.ntmps85
    go_wp2
    go_ret
    exact ⟨_, rfl, HU.out, fun h => by cases h⟩
  by_cases hhi : 18 < op
  · go_enter Tryz.func85, Tryz.ntmps85
    go_wp2
    go_ret
    exact ⟨_, rfl, HU.out, fun h => by cases h⟩
  have HOP : Hid (1 ≤ op ∧ op ≤ 18) := Lib.hid ⟨by omega, by omega⟩
  have hd0 : decide (op < 1) = false := decide_eq_false hlo
  have hd1 : decide (18 < op) = false := decide_eq_false hhi
  clear hlo hhi
  by_cases h3 : op = 3
  · subst h3
    clear hd0 hd1
    have hd0 : True := trivial
    have hd1 : True := trivial
    have HT : Hid (PlainP 3 ix) := Lib.hid ⟨by decide, by decide, fun h => absurd rfl h⟩
    clear HOP
    cases qv
    · cases qt
      · cases qk
        · rcases Nat.eq_zero_or_pos ln with rfl | hpos
          · go_enter Tryz.func85, Tryz.ntmps85
            go_wp2
            clear hv1 ht1 hqk hd0 hd1
            go_loopw [3] (fun iv y => ∃ i : Nat, iv = .int .i64 i ∧ i ≤ xn ∧ Up w y ∧ BoxC y w.heap.size 48 #[.int .i64 3, .string nm, .int .i64 A, .int .i64 d, .int .i64 t0, .int .i64 t1, .int .i64 t2, .int .i64 t3, .int .i64 t4, .int .i64 K, .slice la 0 lc, .slice xa xn xc, .slice ra rn rc]) (fun iv _ => xn - (intOf iv).toNat)
            case atStart => exact ⟨0, rfl, Nat.zero_le _, HU.out, HB.out⟩
            case round =>
              rename World => y
              obtain ⟨i, rfl, hi, hup, hb⟩ := hrel
              have HUY := Lib.hid hup
              have HBY := Lib.hid hb
              have b11 : y.cell? ⟨w.heap.size, 11, none⟩ = some (.slice xa xn xc) := cell_of_row _ _ _ _ _ _ hb
              have bs := hb.lt
              clear hup hb HU HB
              by_cases hlt : i < xn
              · have hltI : (i : Int) < xn := by omega
                have hi1 : i < ix.length := by rw [HXN.out]; exact hlt
                obtain ⟨g, o, ya, yc, ta, tc, rfl, hg, c0, c1, c2, c3, -, -, -⟩ := HX.out.ix4 i hi1
                obtain ⟨K2, hK2⟩ : ∃ q, ix[i].1.1 = q := ⟨_, rfl⟩
                obtain ⟨zn, hzn⟩ : ∃ q, ix[i].1.2.length = q := ⟨_, rfl⟩
                obtain ⟨s, hs⟩ : ∃ q, ix[i].2.1 = q := ⟨_, rfl⟩
                obtain ⟨tn, htn⟩ : ∃ q, ix[i].2.2.length = q := ⟨_, rfl⟩
                rw [hK2] at c0
                rw [hzn] at c1
                rw [hs] at c2
                rw [htn] at c3
                replace c0 := cell_up' HUY.out hg c0
                replace c1 := cell_up' HUY.out hg c1
                replace c2 := cell_up' HUY.out hg c2
                replace c3 := cell_up' HUY.out hg c3
                have gs := Nat.lt_of_lt_of_le hg HUY.out.size
                clear hi1 hg hK2 hzn hs htn
                obtain ⟨qk, hqk⟩ : ∃ q, (K2 != 0) = q := ⟨_, rfl⟩
                obtain ⟨qe, hqe⟩ : ∃ q, (s.toList == ([] : List UInt8)) = q := ⟨_, rfl⟩
                have hqn : (s.toList != ([] : List UInt8)) = !qe := by rw [bne, hqe]
                have HUZ := Lib.hid (HUY.out.trans ((Up.refl y).alloc (.cells #[.int .i64 K2, .slice ya zn yc, .string s, .slice ta tn tc] 81)))
                have HBZ := Lib.hid (HBY.out.up ((Up.refl y).alloc (.cells #[.int .i64 K2, .slice ya zn yc, .string s, .slice ta tn tc] 81)))
                cases qe
                · have hqn2 : (s.toList != ([] : List UInt8)) = true := hqn
                  clear hqn
                  cases qk
                  · rcases Nat.eq_zero_or_pos zn with rfl | hpos
                    · go_wp2
                      go_roundw
                      case rel => exact ⟨i + 1, by go_num, by omega, HUZ.out, HBZ.out⟩
                      case measure => simp [intOf]; omega
                    · have hposI : (0 : Int) < zn := by omega
                      go_wp2
                      go_ret
                      exact ⟨_, rfl, HUZ.out, fun h => by cases h⟩
                  · go_wp2
                    go_ret
                    exact ⟨_, rfl, HUZ.out, fun h => by cases h⟩
                · have hqn2 : (s.toList != ([] : List UInt8)) = false := hqn
                  clear hqn
                  rcases Nat.eq_zero_or_pos tn with rfl | hpos
                  · go_wp2
                    go_roundw
                    case rel => exact ⟨i + 1, by go_num, by omega, HUZ.out, HBZ.out⟩
                    case measure => simp [intOf]; omega
                  · have hposI : (0 : Int) < tn := by omega
                    go_wp2
                    go_ret
                    exact ⟨_, rfl, HUZ.out, fun h => by cases h⟩
              · have hltI : ¬ (i : Int) < xn := by omega
                go_wp2
                go_ret
                exact ⟨_, rfl, HUY.out, fun _ => HT.out⟩
          · have hposI : (0 : Int) < ln := by omega
            go_enter Tryz.func85, Tryz.ntmps85
            go_wp2
            go_ret
            exact ⟨_, rfl, HU.out, fun h => by cases h⟩
        · go_enter Tryz.func85, Tryz.ntmps85
          go_wp2
          go_ret
          exact ⟨_, rfl, HU.out, fun h => by cases h⟩
      · go_enter Tryz.func85, Tryz.ntmps85
        go_wp2
        go_ret
        exact ⟨_, rfl, HU.out, fun h => by cases h⟩
    · go_enter Tryz.func85, Tryz.ntmps85
      go_wp2
      go_ret
      exact ⟨_, rfl, HU.out, fun h => by cases h⟩
  by_cases h1 : op = 1
  · subst h1
    clear hd0 hd1
    have hd0 : True := trivial
    have hd1 : True := trivial
    have HT : Hid (xn = 0 → PlainP 1 ix) := Lib.hid fun h => ⟨by decide, by decide, fun _ => List.length_eq_zero_iff.1 (HXN.out.trans h)⟩
    clear HOP
    cases qk
    · rcases Nat.eq_zero_or_pos ln with rfl | hpos
      · cases qe
        · have hqn2 : (nm.toList != ([] : List UInt8)) = true := hqn
          clear hqn
          go_enter Tryz.func85, Tryz.ntmps85
          go_wp2
          go_ret
          exact ⟨_, rfl, HU.out, fun h => by cases h⟩
        · have hqn2 : (nm.toList != ([] : List UInt8)) = false := hqn
          clear hqn
          rcases Nat.eq_zero_or_pos xn with rfl | hpos
          · replace HT := Lib.hid (HT.out rfl)
            go_enter Tryz.func85, Tryz.ntmps85
            go_wp2
            clear hv1 ht1 hqk hd0 hd1
            go_loopw [3] (fun iv y => iv = .int .i64 0 ∧ Up w y ∧ BoxC y w.heap.size 48 #[.int .i64 1, .string nm, .int .i64 A, .int .i64 d, .int .i64 t0, .int .i64 t1, .int .i64 t2, .int .i64 t3, .int .i64 t4, .int .i64 K, .slice la 0 lc, .slice xa 0 xc, .slice ra rn rc]) (fun iv _ => 0)
            case atStart => exact ⟨rfl, HU.out, HB.out⟩
            case round =>
              rename World => y
              obtain ⟨rfl, hup, hb⟩ := hrel
              have b11 : y.cell? ⟨w.heap.size, 11, none⟩ = some (.slice xa 0 xc) := cell_of_row _ _ _ _ _ _ hb
              have bs := hb.lt
              have HUY := Lib.hid hup
              clear hup hb
              go_wp2
              go_ret
              exact ⟨_, rfl, HUY.out, fun _ => HT.out⟩
          · have hposI : (0 : Int) < xn := by omega
            go_enter Tryz.func85, Tryz.ntmps85
            go_wp2
            go_ret
            exact ⟨_, rfl, HU.out, fun h => by cases h⟩
      · have hposI : (0 : Int) < ln := by omega
        go_enter Tryz.func85, Tryz.ntmps85
        go_wp2
        go_ret
        exact ⟨_, rfl, HU.out, fun h => by cases h⟩
    · go_enter Tryz.func85, Tryz.ntmps85
      go_wp2
      go_ret
      exact ⟨_, rfl, HU.out, fun h => by cases h⟩
  by_cases h2 : op = 2
  · subst h2
    clear hd0 hd1
    have hd0 : True := trivial
    have hd1 : True := trivial
    have HT : Hid (xn = 0 → PlainP 2 ix) := Lib.hid fun h => ⟨by decide, by decide, fun _ => List.length_eq_zero_iff.1 (HXN.out.trans h)⟩
    clear HOP
    cases qv
    · cases qt
      · cases qe
        · have hqn2 : (nm.toList != ([] : List UInt8)) = true := hqn
          clear hqn
          go_enter Tryz.func85, Tryz.ntmps85
          go_wp2
          go_ret
          exact ⟨_, rfl, HU.out, fun h => by cases h⟩
        · have hqn2 : (nm.toList != ([] : List UInt8)) = false := hqn
          clear hqn
          rcases Nat.eq_zero_or_pos xn with rfl | hpos
          · replace HT := Lib.hid (HT.out rfl)
            go_enter Tryz.func85, Tryz.ntmps85
            go_wp2
            clear hv1 ht1 hqk hd0 hd1
            go_loopw [3] (fun iv y => iv = .int .i64 0 ∧ Up w y ∧ BoxC y w.heap.size 48 #[.int .i64 2, .string nm, .int .i64 A, .int .i64 d, .int .i64 t0, .int .i64 t1, .int .i64 t2, .int .i64 t3, .int .i64 t4, .int .i64 K, .slice la ln lc, .slice xa 0 xc, .slice ra rn rc]) (fun iv _ => 0)
            case atStart => exact ⟨rfl, HU.out, HB.out⟩
            case round =>
              rename World => y
              obtain ⟨rfl, hup, hb⟩ := hrel
              have b11 : y.cell? ⟨w.heap.size, 11, none⟩ = some (.slice xa 0 xc) := cell_of_row _ _ _ _ _ _ hb
              have bs := hb.lt
              have HUY := Lib.hid hup
              clear hup hb
              go_wp2
              go_ret
              exact ⟨_, rfl, HUY.out, fun _ => HT.out⟩
          · have hposI : (0 : Int) < xn := by omega
            go_enter Tryz.func85, Tryz.ntmps85
            go_wp2
            go_ret
            exact ⟨_, rfl, HU.out, fun h => by cases h⟩
      · go_enter Tryz.func85, Tryz.ntmps85
        go_wp2
        go_ret
        exact ⟨_, rfl, HU.out, fun h => by cases h⟩
    · go_enter Tryz.func85, Tryz.ntmps85
      go_wp2
      go_ret
      exact ⟨_, rfl, HU.out, fun h => by cases h⟩
  by_cases h12 : op = 12
  · subst h12
    clear hd0 hd1
    have hd0 : True := trivial
    have hd1 : True := trivial
    have HT : Hid (xn = 0 → PlainP 12 ix) := Lib.hid fun h => ⟨by decide, by decide, fun _ => List.length_eq_zero_iff.1 (HXN.out.trans h)⟩
    clear HOP
    cases qv
    · cases qk
      · rcases Nat.eq_zero_or_pos ln with rfl | hpos
        · cases qe
          · have hqn2 : (nm.toList != ([] : List UInt8)) = true := hqn
            clear hqn
            go_enter Tryz.func85, Tryz.ntmps85
            go_wp2
            go_ret
            exact ⟨_, rfl, HU.out, fun h => by cases h⟩
          · have hqn2 : (nm.toList != ([] : List UInt8)) = false := hqn
            clear hqn
            rcases Nat.eq_zero_or_pos xn with rfl | hpos
            · replace HT := Lib.hid (HT.out rfl)
              go_enter Tryz.func85, Tryz.ntmps85
              go_wp2
              clear hv1 ht1 hqk hd0 hd1
              go_loopw [3] (fun iv y => iv = .int .i64 0 ∧ Up w y ∧ BoxC y w.heap.size 48 #[.int .i64 12, .string nm, .int .i64 A, .int .i64 d, .int .i64 t0, .int .i64 t1, .int .i64 t2, .int .i64 t3, .int .i64 t4, .int .i64 K, .slice la 0 lc, .slice xa 0 xc, .slice ra rn rc]) (fun iv _ => 0)
              case atStart => exact ⟨rfl, HU.out, HB.out⟩
              case round =>
                rename World => y
                obtain ⟨rfl, hup, hb⟩ := hrel
                have b11 : y.cell? ⟨w.heap.size, 11, none⟩ = some (.slice xa 0 xc) := cell_of_row _ _ _ _ _ _ hb
                have bs := hb.lt
                have HUY := Lib.hid hup
                clear hup hb
                go_wp2
                go_ret
                exact ⟨_, rfl, HUY.out, fun _ => HT.out⟩
            · have hposI : (0 : Int) < xn := by omega
              go_enter Tryz.func85, Tryz.ntmps85
              go_wp2
              go_ret
              exact ⟨_, rfl, HU.out, fun h => by cases h⟩
        · have hposI : (0 : Int) < ln := by omega
          go_enter Tryz.func85, Tryz.ntmps85
          go_wp2
          go_ret
          exact ⟨_, rfl, HU.out, fun h => by cases h⟩
      · go_enter Tryz.func85, Tryz.ntmps85
        go_wp2
        go_ret
        exact ⟨_, rfl, HU.out, fun h => by cases h⟩
    · go_enter Tryz.func85, Tryz.ntmps85
      go_wp2
      go_ret
      exact ⟨_, rfl, HU.out, fun h => by cases h⟩
  have HT : Hid (xn = 0 → PlainP op ix) := Lib.hid fun h => ⟨HOP.out.1, HOP.out.2, fun _ => List.length_eq_zero_iff.1 (HXN.out.trans h)⟩
  have e3 : (op == 3) = false := by simpa using h3
  have n3 : (op != 3) = true := by simpa using h3
  have e1 : (op == 1) = false := by simpa using h1
  have n1 : (op != 1) = true := by simpa using h1
  have e2 : (op == 2) = false := by simpa using h2
  have n2 : (op != 2) = true := by simpa using h2
  have e12 : (op == 12) = false := by simpa using h12
  have n12 : (op != 12) = true := by simpa using h12
  clear HOP h3 h1 h2 h12
  cases qv
  · cases qt
    · cases qk
      · rcases Nat.eq_zero_or_pos ln with rfl | hpos
        · cases qe
          · have hqn2 : (nm.toList != ([] : List UInt8)) = true := hqn
            clear hqn
            go_enter Tryz.func85, Tryz.ntmps85
            go_wp2
            go_ret
            exact ⟨_, rfl, HU.out, fun h => by cases h⟩
          · have hqn2 : (nm.toList != ([] : List UInt8)) = false := hqn
            clear hqn
            rcases Nat.eq_zero_or_pos xn with rfl | hpos
            · replace HT := Lib.hid (HT.out rfl)
              go_enter Tryz.func85, Tryz.ntmps85
              go_wp2
              clear hv1 ht1 hqk hd0 hd1
              go_loopw [3] (fun iv y => iv = .int .i64 0 ∧ Up w y ∧ BoxC y w.heap.size 48 #[.int .i64 op, .string nm, .int .i64 A, .int .i64 d, .int .i64 t0, .int .i64 t1, .int .i64 t2, .int .i64 t3, .int .i64 t4, .int .i64 K, .slice la 0 lc, .slice xa 0 xc, .slice ra rn rc]) (fun iv _ => 0)
              case atStart => exact ⟨rfl, HU.out, HB.out⟩
              case round =>
                rename World => y
                obtain ⟨rfl, hup, hb⟩ := hrel
                have b11 : y.cell? ⟨w.heap.size, 11, none⟩ = some (.slice xa 0 xc) := cell_of_row _ _ _ _ _ _ hb
                have bs := hb.lt
                have HUY := Lib.hid hup
                clear hup hb
                go_wp2
                go_ret
                exact ⟨_, rfl, HUY.out, fun _ => HT.out⟩
            · have hposI : (0 : Int) < xn := by omega
              go_enter Tryz.func85, Tryz.ntmps85
              go_wp2
              go_ret
              exact ⟨_, rfl, HU.out, fun h => by cases h⟩
        · have hposI : (0 : Int) < ln := by omega
          go_enter Tryz.func85, Tryz.ntmps85
          go_wp2
          go_ret
          exact ⟨_, rfl, HU.out, fun h => by cases h⟩
      · go_enter Tryz.func85, Tryz.ntmps85
        go_wp2
        go_ret
        exact ⟨_, rfl, HU.out, fun h => by cases h⟩
    · go_enter Tryz.func85, Tryz.ntmps85
      go_wp2
      go_ret
      exact ⟨_, rfl, HU.out, fun h => by cases h⟩
  · go_enter Tryz.func85, Tryz.ntmps85
    go_wp2
    go_ret
    exact ⟨_, rfl, HU.out, fun h => by cases h⟩
end Go.Proofs.YtpccaifhcmcegaaGreat
