/-
  Expr, Exprs of the base package, on equal data. Printed by mkDgE.py.
-/
import Derived.Test.YtpccaifhcmcegaaGreatHr
namespace Go.Proofs.YtpccaifhcmcegaaGreat
set_option linter.unusedSimpArgs false
open Go.ChangeShapes Go.WideShapes Go.ChangeAt Go.RowKit
set_option linter.unusedVariables false
set_option maxRecDepth 100000

theorem run_eql_val (a d : Int) (w : World) : (binOp .eql 41 (.agg #[.int .i64 a, .int .i64 d]) (.agg #[.int .i64 a, .int .i64 d])).run Tryz.prog w = .ok (.bool true) w := by
  rw [run_eql_struct]
  go_simp
theorem run_eql_typ (a b c d e : Int) (w : World) : (binOp .eql 38 (.agg #[.int .i64 a, .int .i64 b, .int .i64 c, .int .i64 d, .int .i64 e]) (.agg #[.int .i64 a, .int .i64 b, .int .i64 c, .int .i64 d, .int .i64 e])).run Tryz.prog w = .ok (.bool true) w := by
  rw [run_eql_struct]
  go_simp
theorem run_neq_typ (a b c d e : Int) (w : World) : (binOp .neq 38 (.agg #[.int .i64 a, .int .i64 b, .int .i64 c, .int .i64 d, .int .i64 e]) (.agg #[.int .i64 a, .int .i64 b, .int .i64 c, .int .i64 d, .int .i64 e])).run Tryz.prog w = .ok (.bool false) w := by
  rw [run_neq_struct]
  go_simp

theorem base_Exprs_of_u : ∃ d, Tryz.prog.underlying 48 = some d ∧ d.isRow = true := ⟨_, Tryz.underlying48, rfl⟩
theorem base_Exprs_of_i : (Tryz.prog.info? 48).map (·.size) = some 13 := by kernel_rfl
set_option maxHeartbeats 8000000 in
theorem base_Exprs_of (N : Nat) (ih : ∀ (e : Ex) (w : World) (va vb : Value), AtV 13 (exR N) w va e → AtV 13 (exR N) w vb e → Calls Tryz.prog 51 #[va, vb] w fun e' w' => e' = .returned (.bool true) ∧ Up w w') (w : World) (va vb : Value) (l : List _) (ha : LsAt 13 160 (exR N) w va l) (hb : LsAt 13 160 (exR N) w vb l) :
    Calls Tryz.prog 66 #[va, vb] w fun e w' => e = .returned (.bool true) ∧ Up w w' := by
  obtain ⟨aa, ac, rfl, -⟩ := ha.shape
  obtain ⟨ba, bc, rfl, -⟩ := hb.shape
  obtain ⟨n, hn⟩ : ∃ n, l.length = n := ⟨_, rfl⟩
  have hnI : (n : Int) ≤ 140737488351232 := by have := ha.bytes; omega
  rw [hn] at ha hb ⊢
  have HA := Lib.hid ha
  have HB := Lib.hid hb
  have HN := Lib.hid hn
  clear ha hb hn
  go_enter Tryz.func66, Tryz.ntmps66
  go_wp2
  go_loopw [5] (fun iv y => ∃ i : Nat, iv = .int .i64 i ∧ i ≤ n ∧ Up w y) (fun iv _ => n - (intOf iv).toNat)
  case atStart => exact ⟨0, rfl, Nat.zero_le _, Up.refl _⟩
  case round =>
    rename World => y
    obtain ⟨i, rfl, hi, hup⟩ := hrel
    have HUY := Lib.hid hup
    clear hup
    by_cases hlt : i < n
    · have hltI : (i : Int) < n := by omega
      have hi1 : i < l.length := by rw [HN.out]; exact hlt
      obtain ⟨ga, oa, ca, rfl, hga, hca, hra⟩ := HA.out.row (exR_k N) i hi1
      obtain ⟨gb, ob, cb, rfl, hgb, hcb, hrb⟩ := HB.out.row (exR_k N) i hi1
      obtain ⟨d1, hu1, hu2⟩ := base_Exprs_of_u
      have HLA := Lib.hid (fun z (hz : Up w z) => run_cs (P := Tryz.prog) (k := 13) hu1 hu2 base_Exprs_of_i hca.1 (hra z hz))
      have HLB := Lib.hid (fun z (hz : Up w z) => run_cs (P := Tryz.prog) (k := 13) hu1 hu2 base_Exprs_of_i hcb.1 (hrb z hz))
      have HC := Lib.hid (fun z (hz : Up w z) => (fun z va vb e h1 h2 => ih e z va vb h1 h2) z (.agg ca) (.agg cb) _ (AtV.up (exR_k N) ⟨ca, rfl, hca⟩ hz) (AtV.up (exR_k N) ⟨cb, rfl, hcb⟩ hz))
      have gas := Nat.lt_of_lt_of_le hga HUY.out.size
      have gbs := Nat.lt_of_lt_of_le hgb HUY.out.size
      clear hi1 hra hrb hga hgb hca hcb hu1 hu2
      go_upto_region 6 with fail
      refine wp_region_ext (by kernel_rfl) (by kernel_rfl) ?_
      iterate 3 (go_big_quiet_step (fail))
      refine wpQuiet_load (fun z hz => by obtain ⟨j, rfl⟩ := hz; exact HLA.out _ (HUY.out.trans j.up)) (by rfl) ?_
      simp only [Act.put, List.setIfInBounds_toArray, List.set_cons_succ, List.set_cons_zero]
      iterate 3 (go_big_quiet_step (fail))
      refine wpQuiet_load (fun z hz => by obtain ⟨j, rfl⟩ := hz; exact HLB.out _ (HUY.out.trans j.up)) (by rfl) ?_
      simp only [Act.put, List.setIfInBounds_toArray, List.set_cons_succ, List.set_cons_zero]
      repeat (go_big_quiet_step ((go_at_call 51; exact Calls.ext_of (HC.out _ (HUY.out.trans (Ext.up _))))))
      refine wpQuiet_nil ?_
      intro z hz
      have HUZ := Lib.hid (HUY.out.trans hz)
      clear hz gas gbs
      go_wp2
      go_roundw
      case rel => exact ⟨i + 1, by go_num, by omega, HUZ.out⟩
      case measure => simp [intOf]; omega
    · obtain rfl : n = i := by omega
      go_wp2
      go_ret
      exact ⟨rfl, HUY.out⟩

set_option maxHeartbeats 16000000 in
theorem expr_step (N : Nat) (ih : ∀ (e : Ex) (w : World) (va vb : Value), AtV 13 (exR N) w va e → AtV 13 (exR N) w vb e → Calls Tryz.prog 51 #[va, vb] w fun e' w' => e' = .returned (.bool true) ∧ Up w w') (e : Ex) (w : World) (va vb : Value) (ha : ExAt (N + 1) w va e) (hb : ExAt (N + 1) w vb e) :
    Calls Tryz.prog 51 #[va, vb] w fun e' w' => e' = .returned (.bool true) ∧ Up w w' := by
  have hex := fun va vb l w h1 h2 => base_Exprs_of N ih w va vb l h1 h2
  clear ih
  obtain ⟨op, nm, A, d, t0, t1, t2, t3, t4, K, al, alc, ax, axc, ar, arc, ms, ix, args, rfl, rfl, hnm, hla, hxa, hra⟩ := ha.open
  obtain ⟨op', nm', A', d', t0', t1', t2', t3', t4', K', bl, blc, bx, bxc, br, brc, ms', ix', args', he, rfl, -, hlb, hxb, hrb⟩ := hb.open
  simp only [Ex.mk.injEq, Prod.mk.injEq] at he
  obtain ⟨rfl, rfl, rfl, rfl, ⟨rfl, rfl, rfl, rfl, rfl⟩, ⟨rfl, rfl⟩, rfl, rfl⟩ := he
  clear ha hb
  obtain ⟨ln, hln⟩ : ∃ n, ms.length = n := ⟨_, rfl⟩
  obtain ⟨xn, hxn⟩ : ∃ n, ix.length = n := ⟨_, rfl⟩
  obtain ⟨rn, hrn⟩ : ∃ n, args.length = n := ⟨_, rfl⟩
  rw [hln] at hla hlb ⊢
  rw [hxn] at hxa hxb ⊢
  rw [hrn] at hra hrb ⊢
  have HU := Lib.hid (((Up.refl w).alloc (.cells #[.int .i64 op, .string nm, .int .i64 A, .int .i64 d, .int .i64 t0, .int .i64 t1, .int .i64 t2, .int .i64 t3, .int .i64 t4, .int .i64 K, .slice al ln alc, .slice ax xn axc, .slice ar rn arc] 48)).alloc (.cells #[.int .i64 op, .string nm, .int .i64 A, .int .i64 d, .int .i64 t0, .int .i64 t1, .int .i64 t2, .int .i64 t3, .int .i64 t4, .int .i64 K, .slice bl ln blc, .slice bx xn bxc, .slice br rn brc] 48))
  have hb1 := ((BoxC.new w 48 #[.int .i64 op, .string nm, .int .i64 A, .int .i64 d, .int .i64 t0, .int .i64 t1, .int .i64 t2, .int .i64 t3, .int .i64 t4, .int .i64 K, .slice al ln alc, .slice ax xn axc, .slice ar rn arc]).up ((Up.refl _).alloc (.cells #[.int .i64 op, .string nm, .int .i64 A, .int .i64 d, .int .i64 t0, .int .i64 t1, .int .i64 t2, .int .i64 t3, .int .i64 t4, .int .i64 K, .slice bl ln blc, .slice bx xn bxc, .slice br rn brc] 48)))
  have hb2 := (BoxC.new2 w (.cells #[.int .i64 op, .string nm, .int .i64 A, .int .i64 d, .int .i64 t0, .int .i64 t1, .int .i64 t2, .int .i64 t3, .int .i64 t4, .int .i64 K, .slice al ln alc, .slice ax xn axc, .slice ar rn arc] 48) 48 #[.int .i64 op, .string nm, .int .i64 A, .int .i64 d, .int .i64 t0, .int .i64 t1, .int .i64 t2, .int .i64 t3, .int .i64 t4, .int .i64 K, .slice bl ln blc, .slice bx xn bxc, .slice br rn brc])
  have HB1 := Lib.hid hb1
  have HB2 := Lib.hid hb2
  have HC := Lib.hid (fun y (hy : Up w y) => base_Lin y _ _ (K, ms) ((AtV.ofLin hln hla).up linR_k hy) ((AtV.ofLin hln hlb).up linR_k hy))
  have HC2 := Lib.hid (fun y (hy : Up w y) => base_Indices y _ _ ix (hxa.up ixR_up hy) (hxb.up ixR_up hy))
  have HC3 := Lib.hid (fun y (hy : Up w y) => hex _ _ args y (hra.up (exR_up N) hy) (hrb.up (exR_up N) hy))
  clear hex
  have a0 : ((w.alloc (.cells #[.int .i64 op, .string nm, .int .i64 A, .int .i64 d, .int .i64 t0, .int .i64 t1, .int .i64 t2, .int .i64 t3, .int .i64 t4, .int .i64 K, .slice al ln alc, .slice ax xn axc, .slice ar rn arc] 48)).alloc (.cells #[.int .i64 op, .string nm, .int .i64 A, .int .i64 d, .int .i64 t0, .int .i64 t1, .int .i64 t2, .int .i64 t3, .int .i64 t4, .int .i64 K, .slice bl ln blc, .slice bx xn bxc, .slice br rn brc] 48)).cell? ⟨w.heap.size, 0, none⟩ = some (.int .i64 op) := cell_of_row _ _ _ _ _ _ hb1
  have a1 : ((w.alloc (.cells #[.int .i64 op, .string nm, .int .i64 A, .int .i64 d, .int .i64 t0, .int .i64 t1, .int .i64 t2, .int .i64 t3, .int .i64 t4, .int .i64 K, .slice al ln alc, .slice ax xn axc, .slice ar rn arc] 48)).alloc (.cells #[.int .i64 op, .string nm, .int .i64 A, .int .i64 d, .int .i64 t0, .int .i64 t1, .int .i64 t2, .int .i64 t3, .int .i64 t4, .int .i64 K, .slice bl ln blc, .slice bx xn bxc, .slice br rn brc] 48)).cell? ⟨w.heap.size, 1, none⟩ = some (.string nm) := cell_of_row _ _ _ _ _ _ hb1
  have a2 : ((w.alloc (.cells #[.int .i64 op, .string nm, .int .i64 A, .int .i64 d, .int .i64 t0, .int .i64 t1, .int .i64 t2, .int .i64 t3, .int .i64 t4, .int .i64 K, .slice al ln alc, .slice ax xn axc, .slice ar rn arc] 48)).alloc (.cells #[.int .i64 op, .string nm, .int .i64 A, .int .i64 d, .int .i64 t0, .int .i64 t1, .int .i64 t2, .int .i64 t3, .int .i64 t4, .int .i64 K, .slice bl ln blc, .slice bx xn bxc, .slice br rn brc] 48)).cell? ⟨w.heap.size, 2, none⟩ = some (.int .i64 A) := cell_of_row _ _ _ _ _ _ hb1
  have a3 : ((w.alloc (.cells #[.int .i64 op, .string nm, .int .i64 A, .int .i64 d, .int .i64 t0, .int .i64 t1, .int .i64 t2, .int .i64 t3, .int .i64 t4, .int .i64 K, .slice al ln alc, .slice ax xn axc, .slice ar rn arc] 48)).alloc (.cells #[.int .i64 op, .string nm, .int .i64 A, .int .i64 d, .int .i64 t0, .int .i64 t1, .int .i64 t2, .int .i64 t3, .int .i64 t4, .int .i64 K, .slice bl ln blc, .slice bx xn bxc, .slice br rn brc] 48)).cell? ⟨w.heap.size, 3, none⟩ = some (.int .i64 d) := cell_of_row _ _ _ _ _ _ hb1
  have a4 : ((w.alloc (.cells #[.int .i64 op, .string nm, .int .i64 A, .int .i64 d, .int .i64 t0, .int .i64 t1, .int .i64 t2, .int .i64 t3, .int .i64 t4, .int .i64 K, .slice al ln alc, .slice ax xn axc, .slice ar rn arc] 48)).alloc (.cells #[.int .i64 op, .string nm, .int .i64 A, .int .i64 d, .int .i64 t0, .int .i64 t1, .int .i64 t2, .int .i64 t3, .int .i64 t4, .int .i64 K, .slice bl ln blc, .slice bx xn bxc, .slice br rn brc] 48)).cell? ⟨w.heap.size, 4, none⟩ = some (.int .i64 t0) := cell_of_row _ _ _ _ _ _ hb1
  have a5 : ((w.alloc (.cells #[.int .i64 op, .string nm, .int .i64 A, .int .i64 d, .int .i64 t0, .int .i64 t1, .int .i64 t2, .int .i64 t3, .int .i64 t4, .int .i64 K, .slice al ln alc, .slice ax xn axc, .slice ar rn arc] 48)).alloc (.cells #[.int .i64 op, .string nm, .int .i64 A, .int .i64 d, .int .i64 t0, .int .i64 t1, .int .i64 t2, .int .i64 t3, .int .i64 t4, .int .i64 K, .slice bl ln blc, .slice bx xn bxc, .slice br rn brc] 48)).cell? ⟨w.heap.size, 5, none⟩ = some (.int .i64 t1) := cell_of_row _ _ _ _ _ _ hb1
  have a6 : ((w.alloc (.cells #[.int .i64 op, .string nm, .int .i64 A, .int .i64 d, .int .i64 t0, .int .i64 t1, .int .i64 t2, .int .i64 t3, .int .i64 t4, .int .i64 K, .slice al ln alc, .slice ax xn axc, .slice ar rn arc] 48)).alloc (.cells #[.int .i64 op, .string nm, .int .i64 A, .int .i64 d, .int .i64 t0, .int .i64 t1, .int .i64 t2, .int .i64 t3, .int .i64 t4, .int .i64 K, .slice bl ln blc, .slice bx xn bxc, .slice br rn brc] 48)).cell? ⟨w.heap.size, 6, none⟩ = some (.int .i64 t2) := cell_of_row _ _ _ _ _ _ hb1
  have a7 : ((w.alloc (.cells #[.int .i64 op, .string nm, .int .i64 A, .int .i64 d, .int .i64 t0, .int .i64 t1, .int .i64 t2, .int .i64 t3, .int .i64 t4, .int .i64 K, .slice al ln alc, .slice ax xn axc, .slice ar rn arc] 48)).alloc (.cells #[.int .i64 op, .string nm, .int .i64 A, .int .i64 d, .int .i64 t0, .int .i64 t1, .int .i64 t2, .int .i64 t3, .int .i64 t4, .int .i64 K, .slice bl ln blc, .slice bx xn bxc, .slice br rn brc] 48)).cell? ⟨w.heap.size, 7, none⟩ = some (.int .i64 t3) := cell_of_row _ _ _ _ _ _ hb1
  have a8 : ((w.alloc (.cells #[.int .i64 op, .string nm, .int .i64 A, .int .i64 d, .int .i64 t0, .int .i64 t1, .int .i64 t2, .int .i64 t3, .int .i64 t4, .int .i64 K, .slice al ln alc, .slice ax xn axc, .slice ar rn arc] 48)).alloc (.cells #[.int .i64 op, .string nm, .int .i64 A, .int .i64 d, .int .i64 t0, .int .i64 t1, .int .i64 t2, .int .i64 t3, .int .i64 t4, .int .i64 K, .slice bl ln blc, .slice bx xn bxc, .slice br rn brc] 48)).cell? ⟨w.heap.size, 8, none⟩ = some (.int .i64 t4) := cell_of_row _ _ _ _ _ _ hb1
  have a9 : ((w.alloc (.cells #[.int .i64 op, .string nm, .int .i64 A, .int .i64 d, .int .i64 t0, .int .i64 t1, .int .i64 t2, .int .i64 t3, .int .i64 t4, .int .i64 K, .slice al ln alc, .slice ax xn axc, .slice ar rn arc] 48)).alloc (.cells #[.int .i64 op, .string nm, .int .i64 A, .int .i64 d, .int .i64 t0, .int .i64 t1, .int .i64 t2, .int .i64 t3, .int .i64 t4, .int .i64 K, .slice bl ln blc, .slice bx xn bxc, .slice br rn brc] 48)).cell? ⟨w.heap.size, 9, none⟩ = some (.int .i64 K) := cell_of_row _ _ _ _ _ _ hb1
  have a10 : ((w.alloc (.cells #[.int .i64 op, .string nm, .int .i64 A, .int .i64 d, .int .i64 t0, .int .i64 t1, .int .i64 t2, .int .i64 t3, .int .i64 t4, .int .i64 K, .slice al ln alc, .slice ax xn axc, .slice ar rn arc] 48)).alloc (.cells #[.int .i64 op, .string nm, .int .i64 A, .int .i64 d, .int .i64 t0, .int .i64 t1, .int .i64 t2, .int .i64 t3, .int .i64 t4, .int .i64 K, .slice bl ln blc, .slice bx xn bxc, .slice br rn brc] 48)).cell? ⟨w.heap.size, 10, none⟩ = some (.slice al ln alc) := cell_of_row _ _ _ _ _ _ hb1
  have a11 : ((w.alloc (.cells #[.int .i64 op, .string nm, .int .i64 A, .int .i64 d, .int .i64 t0, .int .i64 t1, .int .i64 t2, .int .i64 t3, .int .i64 t4, .int .i64 K, .slice al ln alc, .slice ax xn axc, .slice ar rn arc] 48)).alloc (.cells #[.int .i64 op, .string nm, .int .i64 A, .int .i64 d, .int .i64 t0, .int .i64 t1, .int .i64 t2, .int .i64 t3, .int .i64 t4, .int .i64 K, .slice bl ln blc, .slice bx xn bxc, .slice br rn brc] 48)).cell? ⟨w.heap.size, 11, none⟩ = some (.slice ax xn axc) := cell_of_row _ _ _ _ _ _ hb1
  have a12 : ((w.alloc (.cells #[.int .i64 op, .string nm, .int .i64 A, .int .i64 d, .int .i64 t0, .int .i64 t1, .int .i64 t2, .int .i64 t3, .int .i64 t4, .int .i64 K, .slice al ln alc, .slice ax xn axc, .slice ar rn arc] 48)).alloc (.cells #[.int .i64 op, .string nm, .int .i64 A, .int .i64 d, .int .i64 t0, .int .i64 t1, .int .i64 t2, .int .i64 t3, .int .i64 t4, .int .i64 K, .slice bl ln blc, .slice bx xn bxc, .slice br rn brc] 48)).cell? ⟨w.heap.size, 12, none⟩ = some (.slice ar rn arc) := cell_of_row _ _ _ _ _ _ hb1
  have b0 : ((w.alloc (.cells #[.int .i64 op, .string nm, .int .i64 A, .int .i64 d, .int .i64 t0, .int .i64 t1, .int .i64 t2, .int .i64 t3, .int .i64 t4, .int .i64 K, .slice al ln alc, .slice ax xn axc, .slice ar rn arc] 48)).alloc (.cells #[.int .i64 op, .string nm, .int .i64 A, .int .i64 d, .int .i64 t0, .int .i64 t1, .int .i64 t2, .int .i64 t3, .int .i64 t4, .int .i64 K, .slice bl ln blc, .slice bx xn bxc, .slice br rn brc] 48)).cell? ⟨w.heap.size + 1, 0, none⟩ = some (.int .i64 op) := cell_of_row _ _ _ _ _ _ hb2
  have b1 : ((w.alloc (.cells #[.int .i64 op, .string nm, .int .i64 A, .int .i64 d, .int .i64 t0, .int .i64 t1, .int .i64 t2, .int .i64 t3, .int .i64 t4, .int .i64 K, .slice al ln alc, .slice ax xn axc, .slice ar rn arc] 48)).alloc (.cells #[.int .i64 op, .string nm, .int .i64 A, .int .i64 d, .int .i64 t0, .int .i64 t1, .int .i64 t2, .int .i64 t3, .int .i64 t4, .int .i64 K, .slice bl ln blc, .slice bx xn bxc, .slice br rn brc] 48)).cell? ⟨w.heap.size + 1, 1, none⟩ = some (.string nm) := cell_of_row _ _ _ _ _ _ hb2
  have b2 : ((w.alloc (.cells #[.int .i64 op, .string nm, .int .i64 A, .int .i64 d, .int .i64 t0, .int .i64 t1, .int .i64 t2, .int .i64 t3, .int .i64 t4, .int .i64 K, .slice al ln alc, .slice ax xn axc, .slice ar rn arc] 48)).alloc (.cells #[.int .i64 op, .string nm, .int .i64 A, .int .i64 d, .int .i64 t0, .int .i64 t1, .int .i64 t2, .int .i64 t3, .int .i64 t4, .int .i64 K, .slice bl ln blc, .slice bx xn bxc, .slice br rn brc] 48)).cell? ⟨w.heap.size + 1, 2, none⟩ = some (.int .i64 A) := cell_of_row _ _ _ _ _ _ hb2
  have b3 : ((w.alloc (.cells #[.int .i64 op, .string nm, .int .i64 A, .int .i64 d, .int .i64 t0, .int .i64 t1, .int .i64 t2, .int .i64 t3, .int .i64 t4, .int .i64 K, .slice al ln alc, .slice ax xn axc, .slice ar rn arc] 48)).alloc (.cells #[.int .i64 op, .string nm, .int .i64 A, .int .i64 d, .int .i64 t0, .int .i64 t1, .int .i64 t2, .int .i64 t3, .int .i64 t4, .int .i64 K, .slice bl ln blc, .slice bx xn bxc, .slice br rn brc] 48)).cell? ⟨w.heap.size + 1, 3, none⟩ = some (.int .i64 d) := cell_of_row _ _ _ _ _ _ hb2
  have b4 : ((w.alloc (.cells #[.int .i64 op, .string nm, .int .i64 A, .int .i64 d, .int .i64 t0, .int .i64 t1, .int .i64 t2, .int .i64 t3, .int .i64 t4, .int .i64 K, .slice al ln alc, .slice ax xn axc, .slice ar rn arc] 48)).alloc (.cells #[.int .i64 op, .string nm, .int .i64 A, .int .i64 d, .int .i64 t0, .int .i64 t1, .int .i64 t2, .int .i64 t3, .int .i64 t4, .int .i64 K, .slice bl ln blc, .slice bx xn bxc, .slice br rn brc] 48)).cell? ⟨w.heap.size + 1, 4, none⟩ = some (.int .i64 t0) := cell_of_row _ _ _ _ _ _ hb2
  have b5 : ((w.alloc (.cells #[.int .i64 op, .string nm, .int .i64 A, .int .i64 d, .int .i64 t0, .int .i64 t1, .int .i64 t2, .int .i64 t3, .int .i64 t4, .int .i64 K, .slice al ln alc, .slice ax xn axc, .slice ar rn arc] 48)).alloc (.cells #[.int .i64 op, .string nm, .int .i64 A, .int .i64 d, .int .i64 t0, .int .i64 t1, .int .i64 t2, .int .i64 t3, .int .i64 t4, .int .i64 K, .slice bl ln blc, .slice bx xn bxc, .slice br rn brc] 48)).cell? ⟨w.heap.size + 1, 5, none⟩ = some (.int .i64 t1) := cell_of_row _ _ _ _ _ _ hb2
  have b6 : ((w.alloc (.cells #[.int .i64 op, .string nm, .int .i64 A, .int .i64 d, .int .i64 t0, .int .i64 t1, .int .i64 t2, .int .i64 t3, .int .i64 t4, .int .i64 K, .slice al ln alc, .slice ax xn axc, .slice ar rn arc] 48)).alloc (.cells #[.int .i64 op, .string nm, .int .i64 A, .int .i64 d, .int .i64 t0, .int .i64 t1, .int .i64 t2, .int .i64 t3, .int .i64 t4, .int .i64 K, .slice bl ln blc, .slice bx xn bxc, .slice br rn brc] 48)).cell? ⟨w.heap.size + 1, 6, none⟩ = some (.int .i64 t2) := cell_of_row _ _ _ _ _ _ hb2
  have b7 : ((w.alloc (.cells #[.int .i64 op, .string nm, .int .i64 A, .int .i64 d, .int .i64 t0, .int .i64 t1, .int .i64 t2, .int .i64 t3, .int .i64 t4, .int .i64 K, .slice al ln alc, .slice ax xn axc, .slice ar rn arc] 48)).alloc (.cells #[.int .i64 op, .string nm, .int .i64 A, .int .i64 d, .int .i64 t0, .int .i64 t1, .int .i64 t2, .int .i64 t3, .int .i64 t4, .int .i64 K, .slice bl ln blc, .slice bx xn bxc, .slice br rn brc] 48)).cell? ⟨w.heap.size + 1, 7, none⟩ = some (.int .i64 t3) := cell_of_row _ _ _ _ _ _ hb2
  have b8 : ((w.alloc (.cells #[.int .i64 op, .string nm, .int .i64 A, .int .i64 d, .int .i64 t0, .int .i64 t1, .int .i64 t2, .int .i64 t3, .int .i64 t4, .int .i64 K, .slice al ln alc, .slice ax xn axc, .slice ar rn arc] 48)).alloc (.cells #[.int .i64 op, .string nm, .int .i64 A, .int .i64 d, .int .i64 t0, .int .i64 t1, .int .i64 t2, .int .i64 t3, .int .i64 t4, .int .i64 K, .slice bl ln blc, .slice bx xn bxc, .slice br rn brc] 48)).cell? ⟨w.heap.size + 1, 8, none⟩ = some (.int .i64 t4) := cell_of_row _ _ _ _ _ _ hb2
  have b9 : ((w.alloc (.cells #[.int .i64 op, .string nm, .int .i64 A, .int .i64 d, .int .i64 t0, .int .i64 t1, .int .i64 t2, .int .i64 t3, .int .i64 t4, .int .i64 K, .slice al ln alc, .slice ax xn axc, .slice ar rn arc] 48)).alloc (.cells #[.int .i64 op, .string nm, .int .i64 A, .int .i64 d, .int .i64 t0, .int .i64 t1, .int .i64 t2, .int .i64 t3, .int .i64 t4, .int .i64 K, .slice bl ln blc, .slice bx xn bxc, .slice br rn brc] 48)).cell? ⟨w.heap.size + 1, 9, none⟩ = some (.int .i64 K) := cell_of_row _ _ _ _ _ _ hb2
  have b10 : ((w.alloc (.cells #[.int .i64 op, .string nm, .int .i64 A, .int .i64 d, .int .i64 t0, .int .i64 t1, .int .i64 t2, .int .i64 t3, .int .i64 t4, .int .i64 K, .slice al ln alc, .slice ax xn axc, .slice ar rn arc] 48)).alloc (.cells #[.int .i64 op, .string nm, .int .i64 A, .int .i64 d, .int .i64 t0, .int .i64 t1, .int .i64 t2, .int .i64 t3, .int .i64 t4, .int .i64 K, .slice bl ln blc, .slice bx xn bxc, .slice br rn brc] 48)).cell? ⟨w.heap.size + 1, 10, none⟩ = some (.slice bl ln blc) := cell_of_row _ _ _ _ _ _ hb2
  have b11 : ((w.alloc (.cells #[.int .i64 op, .string nm, .int .i64 A, .int .i64 d, .int .i64 t0, .int .i64 t1, .int .i64 t2, .int .i64 t3, .int .i64 t4, .int .i64 K, .slice al ln alc, .slice ax xn axc, .slice ar rn arc] 48)).alloc (.cells #[.int .i64 op, .string nm, .int .i64 A, .int .i64 d, .int .i64 t0, .int .i64 t1, .int .i64 t2, .int .i64 t3, .int .i64 t4, .int .i64 K, .slice bl ln blc, .slice bx xn bxc, .slice br rn brc] 48)).cell? ⟨w.heap.size + 1, 11, none⟩ = some (.slice bx xn bxc) := cell_of_row _ _ _ _ _ _ hb2
  have b12 : ((w.alloc (.cells #[.int .i64 op, .string nm, .int .i64 A, .int .i64 d, .int .i64 t0, .int .i64 t1, .int .i64 t2, .int .i64 t3, .int .i64 t4, .int .i64 K, .slice al ln alc, .slice ax xn axc, .slice ar rn arc] 48)).alloc (.cells #[.int .i64 op, .string nm, .int .i64 A, .int .i64 d, .int .i64 t0, .int .i64 t1, .int .i64 t2, .int .i64 t3, .int .i64 t4, .int .i64 K, .slice bl ln blc, .slice bx xn bxc, .slice br rn brc] 48)).cell? ⟨w.heap.size + 1, 12, none⟩ = some (.slice br rn brc) := cell_of_row _ _ _ _ _ _ hb2
  have asz := hb1.lt
  have bsz := hb2.lt
  have q := tl_eq nm nm
  rw [decide_eq_true rfl] at q
  have qv := run_eql_val A d
  have qt := run_eql_typ t0 t1 t2 t3 t4
  clear hb1 hb2 hla hlb hxa hxb hra hrb hln hxn hrn
  go_enter Tryz.func51, Tryz.ntmps51
  go_wp2_with (first
    | (go_at_call 49; (with_reducible refine (HC.out _ HU.out).mono ?_); rintro e' y ⟨rfl, hy⟩; have HY := Lib.hid (HU.out.trans hy); have hc1 := HB1.out.up hy; have hc2 := HB2.out.up hy; have HY1 := Lib.hid hc1; have HY2 := Lib.hid hc2; have yas := hc1.lt; have ybs := hc2.lt; have ya11 : y.cell? ⟨w.heap.size, 11, none⟩ = some (.slice ax xn axc) := cell_of_row _ _ _ _ _ _ hc1; have yb11 : y.cell? ⟨w.heap.size + 1, 11, none⟩ = some (.slice bx xn bxc) := cell_of_row _ _ _ _ _ _ hc2; clear hy hc1 hc2)
    | (go_at_call 65; (with_reducible refine (HC2.out _ HY.out).mono ?_); rintro e' z ⟨rfl, hz⟩; have HZ := Lib.hid (HY.out.trans hz); have hc1 := HY1.out.up hz; have hc2 := HY2.out.up hz; have zas := hc1.lt; have zbs := hc2.lt; have za12 : z.cell? ⟨w.heap.size, 12, none⟩ = some (.slice ar rn arc) := cell_of_row _ _ _ _ _ _ hc1; have zb12 : z.cell? ⟨w.heap.size + 1, 12, none⟩ = some (.slice br rn brc) := cell_of_row _ _ _ _ _ _ hc2; clear hz hc1 hc2)
    | (go_at_call 66; (with_reducible refine (HC3.out _ HZ.out).mono ?_); rintro e' x ⟨rfl, hx⟩; have HX := Lib.hid (HZ.out.trans hx); clear hx))
  go_ret
  exact ⟨rfl, HX.out⟩
theorem AtV.exa {n : Nat} {w : World} {v : Value} {e : Ex} (h : AtV 13 (exR n) w v e) : ExAt n w v e := by
  obtain ⟨cs, rfl, hc⟩ := h
  exact hc.ex
theorem base_Expr (n : Nat) : ∀ (e : Ex) (w : World) (va vb : Value), AtV 13 (exR n) w va e → AtV 13 (exR n) w vb e → Calls Tryz.prog 51 #[va, vb] w fun e' w' => e' = .returned (.bool true) ∧ Up w w' := by
  induction n with
  | zero => intro e w va vb ⟨cs, _, h⟩; exact h.2.elim
  | succ N ih => exact fun e w va vb h1 h2 => expr_step N ih e w va vb h1.exa h2.exa
end Go.Proofs.YtpccaifhcmcegaaGreat

