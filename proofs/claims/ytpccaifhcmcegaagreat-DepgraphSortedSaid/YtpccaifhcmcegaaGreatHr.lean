/-
  Joined by a program: DgE, DgE2.
-/
import Derived.Test.YtpccaifhcmcegaaGreatHi
import Derived.Test.YtpccaifhcmcegaaGreatHh

section
namespace Go.Proofs.YtpccaifhcmcegaaGreat
set_option linter.unusedSimpArgs false
open Go.ChangeShapes Go.WideShapes Go.ChangeAt Go.RowKit
set_option linter.unusedVariables false
set_option maxRecDepth 100000

/-- A struct kept whole. -/
def AtV {α : Type} (k : Nat) (R : Rel α) (w : World) (v : Value) (x : α) : Prop := ∃ cs : Array Value, v = .agg cs ∧ CsAt k R w cs x
theorem AtV.up {α : Type} {k : Nat} {R : Rel α} (hR : Rk k R) {w w' : World} {v : Value} {x : α} (h : AtV k R w v x) (u : Up w w') : AtV k R w' v x := let ⟨cs, h1, h2⟩ := h; ⟨cs, h1, h2.up hR u⟩
theorem wpQuiet_load {P : Program} {ops : Array Oper} {C : World → Prop} {Q : Act → Prop} {rest : List Oper} {a : Act} {T : TypeId} {p V : Value} (hrun : ∀ w, C w → (Instr.loadAt T p).run P w = .ok V w) {dst : Option Nat} {x : Operand} {ty : TypeId} {pos : String} {af : Array Edge} (hx : a.eval x = p)
    (h : wpQuiet P ops C Q rest (a.put dst V)) : wpQuiet P ops C Q ({ dst := dst, op := .load T x, type := ty, pos := pos, after := af, guard := none } :: rest) a := by
  refine BigFrame.wpQuiet_want rfl (fun K hK => ⟨V, fun w hw => ?_, hK _ h⟩)
  unfold Oper.quietAt execOp
  simp only [hx, hrun w hw, Sem.run_bind, Sem.run_pure, Result.andThen_ok]
  exact ⟨rfl, rfl⟩
theorem run_neq_mono (s : ByteArray) (k : Int) (w : World) : (binOp .neq 112 (.agg #[.string s, .int .i64 k]) (.agg #[.string s, .int .i64 k])).run Tryz.prog w = .ok (.bool false) w := by
  rw [run_neq_struct]
  go_simp
/-- A linear form's two cells. -/
theorem AtV.lin {w : World} {v : Value} {x : LinT} (h : AtV 2 linR w v x) : ∃ a c, v = .agg #[.int .i64 x.1, .slice a x.2.length c] ∧ LsAt 2 24 monR w (.slice a x.2.length c) x.2 := by
  obtain ⟨⟨l⟩, rfl, hs, g0, g1⟩ := h
  match l, hs with
  | [c0, c1], _ =>
    have h0 : c0 = .int .i64 x.1 := g0
    have h1 : LsAt 2 24 monR w c1 x.2 := g1
    clear g0 g1
    obtain ⟨a, c, rfl, _⟩ := h1.shape
    exact ⟨a, c, by rw [h0], h1⟩

set_option maxHeartbeats 8000000 in
theorem base_Lin (w : World) (va vb : Value) (x : LinT) (ha : AtV 2 linR w va x) (hb : AtV 2 linR w vb x) :
    Calls Tryz.prog 49 #[va, vb] w fun e w' => e = .returned (.bool true) ∧ Up w w' := by
  obtain ⟨aa, ac, rfl, hla⟩ := ha.lin
  obtain ⟨ba, bc, rfl, hlb⟩ := hb.lin
  clear ha hb
  obtain ⟨K, l⟩ := x
  dsimp only at hla hlb ⊢
  obtain ⟨n, hn⟩ : ∃ n, l.length = n := ⟨_, rfl⟩
  have hnI : (n : Int) ≤ 140737488351232 := by have := hla.bytes; omega
  rw [hn] at hla hlb ⊢
  have HA := Lib.hid hla
  have HB := Lib.hid hlb
  have HN := Lib.hid hn
  have HU := Lib.hid (((Up.refl w).alloc (.cells #[.int .i64 K, .slice aa n ac] 44)).alloc (.cells #[.int .i64 K, .slice ba n bc] 44))
  have HB1 := Lib.hid ((BoxC.new w 44 #[.int .i64 K, .slice aa n ac]).up ((Up.refl _).alloc (.cells #[.int .i64 K, .slice ba n bc] 44)))
  have HB2 := Lib.hid (BoxC.new2 w (.cells #[.int .i64 K, .slice aa n ac] 44) 44 #[.int .i64 K, .slice ba n bc])
  clear hla hlb hn
  go_enter Tryz.func49, Tryz.ntmps49
  go_wp2
  go_loopw [5] (fun iv y => ∃ i : Nat, iv = .int .i64 i ∧ i ≤ n ∧ Up w y ∧ BoxC y w.heap.size 44 #[.int .i64 K, .slice aa n ac] ∧ BoxC y (w.heap.size + 1) 44 #[.int .i64 K, .slice ba n bc]) (fun iv _ => n - (intOf iv).toNat)
  case atStart => exact ⟨0, rfl, Nat.zero_le _, HU.out, HB1.out, HB2.out⟩
  case round =>
    rename World => y
    obtain ⟨i, rfl, hi, hup, hb1, hb2⟩ := hrel
    have HUY := Lib.hid hup
    have HBA := Lib.hid hb1
    have HBB := Lib.hid hb2
    have a1 : y.cell? ⟨w.heap.size, 1, none⟩ = some (.slice aa n ac) := hb1.two.2
    have b1 : y.cell? ⟨w.heap.size + 1, 1, none⟩ = some (.slice ba n bc) := hb2.two.2
    have asz := hb1.lt
    have bsz := hb2.lt
    clear hup hb1 hb2 HU HB1 HB2
    by_cases hlt : i < n
    · have hltI : (i : Int) < n := by omega
      have hi1 : i < l.length := by rw [HN.out]; exact hlt
      obtain ⟨ga, oa, fa, rfl, hga, hfa, ha0, ha1⟩ := HA.out.elem i hi1
      obtain ⟨gb, ob, fb, rfl, hgb, hfb, hb0, hb1⟩ := HB.out.elem i hi1
      obtain ⟨x, hx⟩ : ∃ x, l[i] = x := ⟨_, rfl⟩
      rw [hx] at ha0 ha1 hb0 hb1
      obtain ⟨s, k⟩ := x
      dsimp only at ha0 ha1 hb0 hb1
      have c0 := cell_up' HUY.out hga (hfa 0 (by decide))
      have c1 := cell_up' HUY.out hga (hfa 1 (by decide))
      have d0 := cell_up' HUY.out hgb (hfb 0 (by decide))
      have d1 := cell_up' HUY.out hgb (hfb 1 (by decide))
      rw [ha0.1, Nat.add_zero] at c0
      rw [ha1] at c1
      rw [hb0.1, Nat.add_zero] at d0
      rw [hb1] at d1
      have gas := Nat.lt_of_lt_of_le hga HUY.out.size
      have gbs := Nat.lt_of_lt_of_le hgb HUY.out.size
      have HQ := run_neq_mono s k
      clear hx hi1 hfa hfb ha0 ha1 hb0 hb1 hga hgb
      go_upto_region 6 with fail
      refine wp_region_ext (by kernel_rfl) (by kernel_rfl) ?_
      repeat (go_big_quiet_step (fail))
      refine wpQuiet_nil ?_
      intro z hz
      have HUZ := Lib.hid (HUY.out.trans hz)
      have HZA := Lib.hid (HBA.out.up hz)
      have HZB := Lib.hid (HBB.out.up hz)
      clear hz a1 b1 asz bsz c0 c1 d0 d1 gas gbs
      go_wp2
      go_roundw
      case rel => exact ⟨i + 1, by go_num, by omega, HUZ.out, HZA.out, HZB.out⟩
      case measure => simp [intOf]; omega
    · obtain rfl : n = i := by omega
      go_wp2
      go_ret
      exact ⟨rfl, HUY.out⟩

theorem base_Lins_u : ∃ d, Tryz.prog.underlying 44 = some d ∧ d.isRow = true := ⟨_, Tryz.underlying44, rfl⟩
theorem base_Lins_i : (Tryz.prog.info? 44).map (·.size) = some 2 := by kernel_rfl
set_option maxHeartbeats 8000000 in
theorem base_Lins (w : World) (va vb : Value) (l : List _) (ha : LsAt 2 32 linR w va l) (hb : LsAt 2 32 linR w vb l) :
    Calls Tryz.prog 28 #[va, vb] w fun e w' => e = .returned (.bool true) ∧ Up w w' := by
  obtain ⟨aa, ac, rfl, -⟩ := ha.shape
  obtain ⟨ba, bc, rfl, -⟩ := hb.shape
  obtain ⟨n, hn⟩ : ∃ n, l.length = n := ⟨_, rfl⟩
  have hnI : (n : Int) ≤ 140737488351232 := by have := ha.bytes; omega
  rw [hn] at ha hb ⊢
  have HA := Lib.hid ha
  have HB := Lib.hid hb
  have HN := Lib.hid hn
  clear ha hb hn
  go_enter Tryz.func28, Tryz.ntmps28
  go_wp2
  go_loopw [5] (fun iv y => ∃ i : Nat, iv = .int .i64 i ∧ i ≤ n ∧ Up w y) (fun iv _ => n - (intOf iv).toNat)
  case atStart => exact ⟨0, rfl, Nat.zero_le _, Up.refl _⟩
  case round =>
    rename World => y
    obtain ⟨i, rfl, hi, hup⟩ := hrel
    have HUY := Lib.hid hup
    clear hup
    by_cases hlt : i < n
    · have hltI : (i : Int) < n := by omega
      have hi1 : i < l.length := by rw [HN.out]; exact hlt
      obtain ⟨ga, oa, ca, rfl, hga, hca, hra⟩ := HA.out.row linR_k i hi1
      obtain ⟨gb, ob, cb, rfl, hgb, hcb, hrb⟩ := HB.out.row linR_k i hi1
      obtain ⟨d1, hu1, hu2⟩ := base_Lins_u
      have HLA := Lib.hid (fun z (hz : Up w z) => run_cs (P := Tryz.prog) (k := 2) hu1 hu2 base_Lins_i hca.1 (hra z hz))
      have HLB := Lib.hid (fun z (hz : Up w z) => run_cs (P := Tryz.prog) (k := 2) hu1 hu2 base_Lins_i hcb.1 (hrb z hz))
      have HC := Lib.hid (fun z (hz : Up w z) => base_Lin z (.agg ca) (.agg cb) _ (AtV.up linR_k ⟨ca, rfl, hca⟩ hz) (AtV.up linR_k ⟨cb, rfl, hcb⟩ hz))
      have gas := Nat.lt_of_lt_of_le hga HUY.out.size
      have gbs := Nat.lt_of_lt_of_le hgb HUY.out.size
      clear hi1 hra hrb hga hgb hca hcb hu1 hu2
      go_upto_region 6 with fail
      refine wp_region_ext (by kernel_rfl) (by kernel_rfl) ?_
      iterate 3 (go_big_quiet_step (fail))
      refine wpQuiet_load (fun z hz => by obtain ⟨j, rfl⟩ := hz; exact HLA.out _ (HUY.out.trans j.up)) (by rfl) ?_
      simp only [Act.put, List.setIfInBounds_toArray, List.set_cons_succ, List.set_cons_zero]
      iterate 3 (go_big_quiet_step (fail))
      refine wpQuiet_load (fun z hz => by obtain ⟨j, rfl⟩ := hz; exact HLB.out _ (HUY.out.trans j.up)) (by rfl) ?_
      simp only [Act.put, List.setIfInBounds_toArray, List.set_cons_succ, List.set_cons_zero]
      repeat (go_big_quiet_step ((go_at_call 49; exact Calls.ext_of (HC.out _ (HUY.out.trans (Ext.up _))))))
      refine wpQuiet_nil ?_
      intro z hz
      have HUZ := Lib.hid (HUY.out.trans hz)
      clear hz gas gbs
      go_wp2
      go_roundw
      case rel => exact ⟨i + 1, by go_num, by omega, HUZ.out⟩
      case measure => simp [intOf]; omega
    · obtain rfl : n = i := by omega
      go_wp2
      go_ret
      exact ⟨rfl, HUY.out⟩
end Go.Proofs.YtpccaifhcmcegaaGreat
end

section
namespace Go.Proofs.YtpccaifhcmcegaaGreat
set_option linter.unusedSimpArgs false
open Go.ChangeShapes Go.WideShapes Go.ChangeAt Go.RowKit
set_option linter.unusedVariables false
set_option maxRecDepth 100000

theorem AtV.con {w : World} {v : Value} {x : Con} (h : AtV 3 conR w v x) : ∃ a c, v = .agg #[.int .i64 x.1.1, .slice a x.1.2.length c, .bool x.2] ∧ LsAt 2 24 monR w (.slice a x.1.2.length c) x.1.2 := by
  obtain ⟨⟨l⟩, rfl, hs, ⟨g0, g1⟩, g2⟩ := h
  match l, hs with
  | [c0, c1, c2], _ =>
    have h0 : c0 = .int .i64 x.1.1 := g0
    have h1 : LsAt 2 24 monR w c1 x.1.2 := g1
    have h2 : c2 = .bool x.2 := g2
    clear g0 g1 g2
    obtain ⟨a, c, rfl, _⟩ := h1.shape
    exact ⟨a, c, by rw [h0, h2], h1⟩
theorem AtV.ofLin {w : World} {K : Int} {l : List Mono} {a : Option Addr} {c n : Nat} (hn : l.length = n) (h : LsAt 2 24 monR w (.slice a n c) l) : AtV 2 linR w (.agg #[.int .i64 K, .slice a n c]) (K, l) := ⟨_, rfl, rfl, rfl, h⟩

set_option maxHeartbeats 8000000 in
theorem base_Con (w : World) (va vb : Value) (x : Con) (ha : AtV 3 conR w va x) (hb : AtV 3 conR w vb x) :
    Calls Tryz.prog 48 #[va, vb] w fun e w' => e = .returned (.bool true) ∧ Up w w' := by
  obtain ⟨aa, ac, rfl, hla⟩ := ha.con
  obtain ⟨ba, bc, rfl, hlb⟩ := hb.con
  clear ha hb
  obtain ⟨⟨K, l⟩, q⟩ := x
  dsimp only at hla hlb ⊢
  obtain ⟨n, hn⟩ : ∃ n, l.length = n := ⟨_, rfl⟩
  rw [hn] at hla hlb ⊢
  have HU := Lib.hid (((Up.refl w).alloc (.cells #[.int .i64 K, .slice aa n ac, .bool q] 71)).alloc (.cells #[.int .i64 K, .slice ba n bc, .bool q] 71))
  have hb1 := ((BoxC.new w 71 #[.int .i64 K, .slice aa n ac, .bool q]).up ((Up.refl _).alloc (.cells #[.int .i64 K, .slice ba n bc, .bool q] 71)))
  have hb2 := (BoxC.new2 w (.cells #[.int .i64 K, .slice aa n ac, .bool q] 71) 71 #[.int .i64 K, .slice ba n bc, .bool q])
  have HB1 := Lib.hid hb1
  have HB2 := Lib.hid hb2
  have HC := Lib.hid (fun y (hy : Up w y) => base_Lin y _ _ (K, l) ((AtV.ofLin hn hla).up linR_k hy) ((AtV.ofLin hn hlb).up linR_k hy))
  have a0 : ((w.alloc (.cells #[.int .i64 K, .slice aa n ac, .bool q] 71)).alloc (.cells #[.int .i64 K, .slice ba n bc, .bool q] 71)).cell? ⟨w.heap.size, 0, none⟩ = some (.int .i64 K) := cell_of_row _ _ _ _ _ _ hb1
  have a1 : ((w.alloc (.cells #[.int .i64 K, .slice aa n ac, .bool q] 71)).alloc (.cells #[.int .i64 K, .slice ba n bc, .bool q] 71)).cell? ⟨w.heap.size, 1, none⟩ = some (.slice aa n ac) := cell_of_row _ _ _ _ _ _ hb1
  have a2 : ((w.alloc (.cells #[.int .i64 K, .slice aa n ac, .bool q] 71)).alloc (.cells #[.int .i64 K, .slice ba n bc, .bool q] 71)).cell? ⟨w.heap.size, 2, none⟩ = some (.bool q) := cell_of_row _ _ _ _ _ _ hb1
  have b0 : ((w.alloc (.cells #[.int .i64 K, .slice aa n ac, .bool q] 71)).alloc (.cells #[.int .i64 K, .slice ba n bc, .bool q] 71)).cell? ⟨w.heap.size + 1, 0, none⟩ = some (.int .i64 K) := cell_of_row _ _ _ _ _ _ hb2
  have b1 : ((w.alloc (.cells #[.int .i64 K, .slice aa n ac, .bool q] 71)).alloc (.cells #[.int .i64 K, .slice ba n bc, .bool q] 71)).cell? ⟨w.heap.size + 1, 1, none⟩ = some (.slice ba n bc) := cell_of_row _ _ _ _ _ _ hb2
  have b2 : ((w.alloc (.cells #[.int .i64 K, .slice aa n ac, .bool q] 71)).alloc (.cells #[.int .i64 K, .slice ba n bc, .bool q] 71)).cell? ⟨w.heap.size + 1, 2, none⟩ = some (.bool q) := cell_of_row _ _ _ _ _ _ hb2
  have asz := hb1.lt
  have bsz := hb2.lt
  clear hb1 hb2 hla hlb hn
  go_enter Tryz.func48, Tryz.ntmps48
  go_wp2_with (go_at_call 49; (with_reducible refine (HC.out _ HU.out).mono ?_); rintro e' y ⟨rfl, hy⟩; have HY := Lib.hid (HU.out.trans hy); clear hy)
  go_ret
  exact ⟨rfl, HY.out⟩

theorem base_Cons_u : ∃ d, Tryz.prog.underlying 71 = some d ∧ d.isRow = true := ⟨_, Tryz.underlying71, rfl⟩
theorem base_Cons_i : (Tryz.prog.info? 71).map (·.size) = some 3 := by kernel_rfl
set_option maxHeartbeats 8000000 in
theorem base_Cons (w : World) (va vb : Value) (l : List _) (ha : LsAt 3 40 conR w va l) (hb : LsAt 3 40 conR w vb l) :
    Calls Tryz.prog 27 #[va, vb] w fun e w' => e = .returned (.bool true) ∧ Up w w' := by
  obtain ⟨aa, ac, rfl, -⟩ := ha.shape
  obtain ⟨ba, bc, rfl, -⟩ := hb.shape
  obtain ⟨n, hn⟩ : ∃ n, l.length = n := ⟨_, rfl⟩
  have hnI : (n : Int) ≤ 140737488351232 := by have := ha.bytes; omega
  rw [hn] at ha hb ⊢
  have HA := Lib.hid ha
  have HB := Lib.hid hb
  have HN := Lib.hid hn
  clear ha hb hn
  go_enter Tryz.func27, Tryz.ntmps27
  go_wp2
  go_loopw [5] (fun iv y => ∃ i : Nat, iv = .int .i64 i ∧ i ≤ n ∧ Up w y) (fun iv _ => n - (intOf iv).toNat)
  case atStart => exact ⟨0, rfl, Nat.zero_le _, Up.refl _⟩
  case round =>
    rename World => y
    obtain ⟨i, rfl, hi, hup⟩ := hrel
    have HUY := Lib.hid hup
    clear hup
    by_cases hlt : i < n
    · have hltI : (i : Int) < n := by omega
      have hi1 : i < l.length := by rw [HN.out]; exact hlt
      obtain ⟨ga, oa, ca, rfl, hga, hca, hra⟩ := HA.out.row conR_k i hi1
      obtain ⟨gb, ob, cb, rfl, hgb, hcb, hrb⟩ := HB.out.row conR_k i hi1
      obtain ⟨d1, hu1, hu2⟩ := base_Cons_u
      have HLA := Lib.hid (fun z (hz : Up w z) => run_cs (P := Tryz.prog) (k := 3) hu1 hu2 base_Cons_i hca.1 (hra z hz))
      have HLB := Lib.hid (fun z (hz : Up w z) => run_cs (P := Tryz.prog) (k := 3) hu1 hu2 base_Cons_i hcb.1 (hrb z hz))
      have HC := Lib.hid (fun z (hz : Up w z) => base_Con z (.agg ca) (.agg cb) _ (AtV.up conR_k ⟨ca, rfl, hca⟩ hz) (AtV.up conR_k ⟨cb, rfl, hcb⟩ hz))
      have gas := Nat.lt_of_lt_of_le hga HUY.out.size
      have gbs := Nat.lt_of_lt_of_le hgb HUY.out.size
      clear hi1 hra hrb hga hgb hca hcb hu1 hu2
      go_upto_region 6 with fail
      refine wp_region_ext (by kernel_rfl) (by kernel_rfl) ?_
      iterate 3 (go_big_quiet_step (fail))
      refine wpQuiet_load (fun z hz => by obtain ⟨j, rfl⟩ := hz; exact HLA.out _ (HUY.out.trans j.up)) (by rfl) ?_
      simp only [Act.put, List.setIfInBounds_toArray, List.set_cons_succ, List.set_cons_zero]
      iterate 3 (go_big_quiet_step (fail))
      refine wpQuiet_load (fun z hz => by obtain ⟨j, rfl⟩ := hz; exact HLB.out _ (HUY.out.trans j.up)) (by rfl) ?_
      simp only [Act.put, List.setIfInBounds_toArray, List.set_cons_succ, List.set_cons_zero]
      repeat (go_big_quiet_step ((go_at_call 48; exact Calls.ext_of (HC.out _ (HUY.out.trans (Ext.up _))))))
      refine wpQuiet_nil ?_
      intro z hz
      have HUZ := Lib.hid (HUY.out.trans hz)
      clear hz gas gbs
      go_wp2
      go_roundw
      case rel => exact ⟨i + 1, by go_num, by omega, HUZ.out⟩
      case measure => simp [intOf]; omega
    · obtain rfl : n = i := by omega
      go_wp2
      go_ret
      exact ⟨rfl, HUY.out⟩

theorem AtV.ix {w : World} {v : Value} {x : Ix} (h : AtV 4 ixR w v x) : ∃ a c t d, v = .agg #[.int .i64 x.1.1, .slice a x.1.2.length c, .string x.2.1, .slice t x.2.2.length d] ∧ LsAt 2 24 monR w (.slice a x.1.2.length c) x.1.2 ∧ LsAt 2 32 linR w (.slice t x.2.2.length d) x.2.2 := by
  obtain ⟨⟨l⟩, rfl, hs, ⟨g0, g1⟩, ⟨g2, _⟩, g3⟩ := h
  match l, hs with
  | [c0, c1, c2, c3], _ =>
    have h0 : c0 = .int .i64 x.1.1 := g0
    have h1 : LsAt 2 24 monR w c1 x.1.2 := g1
    have h2 : c2 = .string x.2.1 := g2
    have h3 : LsAt 2 32 linR w c3 x.2.2 := g3
    clear g0 g1 g2 g3
    obtain ⟨a, c, rfl, _⟩ := h1.shape
    obtain ⟨t, d, rfl, _⟩ := h3.shape
    exact ⟨a, c, t, d, by rw [h0, h2], h1, h3⟩
set_option maxHeartbeats 8000000 in
theorem base_Index (w : World) (va vb : Value) (x : Ix) (ha : AtV 4 ixR w va x) (hb : AtV 4 ixR w vb x) :
    Calls Tryz.prog 80 #[va, vb] w fun e w' => e = .returned (.bool true) ∧ Up w w' := by
  obtain ⟨aa, ac, at_, ad, rfl, hla, hta⟩ := ha.ix
  obtain ⟨ba, bc, bt, bd, rfl, hlb, htb⟩ := hb.ix
  clear ha hb
  obtain ⟨⟨K, l⟩, s, tl⟩ := x
  dsimp only at hla hlb hta htb ⊢
  obtain ⟨n, hn⟩ : ∃ n, l.length = n := ⟨_, rfl⟩
  obtain ⟨m, hm⟩ : ∃ n, tl.length = n := ⟨_, rfl⟩
  rw [hn] at hla hlb ⊢
  rw [hm] at hta htb ⊢
  have HU := Lib.hid (((Up.refl w).alloc (.cells #[.int .i64 K, .slice aa n ac, .string s, .slice at_ m ad] 81)).alloc (.cells #[.int .i64 K, .slice ba n bc, .string s, .slice bt m bd] 81))
  have hb1 := ((BoxC.new w 81 #[.int .i64 K, .slice aa n ac, .string s, .slice at_ m ad]).up ((Up.refl _).alloc (.cells #[.int .i64 K, .slice ba n bc, .string s, .slice bt m bd] 81)))
  have hb2 := (BoxC.new2 w (.cells #[.int .i64 K, .slice aa n ac, .string s, .slice at_ m ad] 81) 81 #[.int .i64 K, .slice ba n bc, .string s, .slice bt m bd])
  have HB1 := Lib.hid hb1
  have HB2 := Lib.hid hb2
  have HC := Lib.hid (fun y (hy : Up w y) => base_Lin y _ _ (K, l) ((AtV.ofLin hn hla).up linR_k hy) ((AtV.ofLin hn hlb).up linR_k hy))
  have HC2 := Lib.hid (fun y (hy : Up w y) => base_Lins y _ _ tl (hta.up linR_up hy) (htb.up linR_up hy))
  have a0 : ((w.alloc (.cells #[.int .i64 K, .slice aa n ac, .string s, .slice at_ m ad] 81)).alloc (.cells #[.int .i64 K, .slice ba n bc, .string s, .slice bt m bd] 81)).cell? ⟨w.heap.size, 0, none⟩ = some (.int .i64 K) := cell_of_row _ _ _ _ _ _ hb1
  have a1 : ((w.alloc (.cells #[.int .i64 K, .slice aa n ac, .string s, .slice at_ m ad] 81)).alloc (.cells #[.int .i64 K, .slice ba n bc, .string s, .slice bt m bd] 81)).cell? ⟨w.heap.size, 1, none⟩ = some (.slice aa n ac) := cell_of_row _ _ _ _ _ _ hb1
  have a2 : ((w.alloc (.cells #[.int .i64 K, .slice aa n ac, .string s, .slice at_ m ad] 81)).alloc (.cells #[.int .i64 K, .slice ba n bc, .string s, .slice bt m bd] 81)).cell? ⟨w.heap.size, 2, none⟩ = some (.string s) := cell_of_row _ _ _ _ _ _ hb1
  have a3 : ((w.alloc (.cells #[.int .i64 K, .slice aa n ac, .string s, .slice at_ m ad] 81)).alloc (.cells #[.int .i64 K, .slice ba n bc, .string s, .slice bt m bd] 81)).cell? ⟨w.heap.size, 3, none⟩ = some (.slice at_ m ad) := cell_of_row _ _ _ _ _ _ hb1
  have b0 : ((w.alloc (.cells #[.int .i64 K, .slice aa n ac, .string s, .slice at_ m ad] 81)).alloc (.cells #[.int .i64 K, .slice ba n bc, .string s, .slice bt m bd] 81)).cell? ⟨w.heap.size + 1, 0, none⟩ = some (.int .i64 K) := cell_of_row _ _ _ _ _ _ hb2
  have b1 : ((w.alloc (.cells #[.int .i64 K, .slice aa n ac, .string s, .slice at_ m ad] 81)).alloc (.cells #[.int .i64 K, .slice ba n bc, .string s, .slice bt m bd] 81)).cell? ⟨w.heap.size + 1, 1, none⟩ = some (.slice ba n bc) := cell_of_row _ _ _ _ _ _ hb2
  have b2 : ((w.alloc (.cells #[.int .i64 K, .slice aa n ac, .string s, .slice at_ m ad] 81)).alloc (.cells #[.int .i64 K, .slice ba n bc, .string s, .slice bt m bd] 81)).cell? ⟨w.heap.size + 1, 2, none⟩ = some (.string s) := cell_of_row _ _ _ _ _ _ hb2
  have b3 : ((w.alloc (.cells #[.int .i64 K, .slice aa n ac, .string s, .slice at_ m ad] 81)).alloc (.cells #[.int .i64 K, .slice ba n bc, .string s, .slice bt m bd] 81)).cell? ⟨w.heap.size + 1, 3, none⟩ = some (.slice bt m bd) := cell_of_row _ _ _ _ _ _ hb2
  have asz := hb1.lt
  have bsz := hb2.lt
  have q := tl_eq s s
  rw [decide_eq_true rfl] at q
  clear hb1 hb2 hla hlb hn hta htb hm
  go_enter Tryz.func80, Tryz.ntmps80
  go_wp2_with (first
    | (go_at_call 49; (with_reducible refine (HC.out _ HU.out).mono ?_); rintro e' y ⟨rfl, hy⟩; have HY := Lib.hid (HU.out.trans hy); have hc1 := HB1.out.up hy; have hc2 := HB2.out.up hy; have yas := hc1.lt; have ybs := hc2.lt; have ya3 : y.cell? ⟨w.heap.size, 3, none⟩ = some (.slice at_ m ad) := cell_of_row _ _ _ _ _ _ hc1; have yb3 : y.cell? ⟨w.heap.size + 1, 3, none⟩ = some (.slice bt m bd) := cell_of_row _ _ _ _ _ _ hc2; clear hy hc1 hc2)
    | (go_at_call 28; (with_reducible refine (HC2.out _ HY.out).mono ?_); rintro e' z ⟨rfl, hz⟩; have HZ := Lib.hid (HY.out.trans hz); clear hz))
  go_ret
  exact ⟨rfl, HZ.out⟩

theorem base_Indices_u : ∃ d, Tryz.prog.underlying 81 = some d ∧ d.isRow = true := ⟨_, Tryz.underlying81, rfl⟩
theorem base_Indices_i : (Tryz.prog.info? 81).map (·.size) = some 4 := by kernel_rfl
set_option maxHeartbeats 8000000 in
theorem base_Indices (w : World) (va vb : Value) (l : List _) (ha : LsAt 4 72 ixR w va l) (hb : LsAt 4 72 ixR w vb l) :
    Calls Tryz.prog 65 #[va, vb] w fun e w' => e = .returned (.bool true) ∧ Up w w' := by
  obtain ⟨aa, ac, rfl, -⟩ := ha.shape
  obtain ⟨ba, bc, rfl, -⟩ := hb.shape
  obtain ⟨n, hn⟩ : ∃ n, l.length = n := ⟨_, rfl⟩
  have hnI : (n : Int) ≤ 140737488351232 := by have := ha.bytes; omega
  rw [hn] at ha hb ⊢
  have HA := Lib.hid ha
  have HB := Lib.hid hb
  have HN := Lib.hid hn
  clear ha hb hn
  go_enter Tryz.func65, Tryz.ntmps65
  go_wp2
  go_loopw [5] (fun iv y => ∃ i : Nat, iv = .int .i64 i ∧ i ≤ n ∧ Up w y) (fun iv _ => n - (intOf iv).toNat)
  case atStart => exact ⟨0, rfl, Nat.zero_le _, Up.refl _⟩
  case round =>
    rename World => y
    obtain ⟨i, rfl, hi, hup⟩ := hrel
    have HUY := Lib.hid hup
    clear hup
    by_cases hlt : i < n
    · have hltI : (i : Int) < n := by omega
      have hi1 : i < l.length := by rw [HN.out]; exact hlt
      obtain ⟨ga, oa, ca, rfl, hga, hca, hra⟩ := HA.out.row ixR_k i hi1
      obtain ⟨gb, ob, cb, rfl, hgb, hcb, hrb⟩ := HB.out.row ixR_k i hi1
      obtain ⟨d1, hu1, hu2⟩ := base_Indices_u
      have HLA := Lib.hid (fun z (hz : Up w z) => run_cs (P := Tryz.prog) (k := 4) hu1 hu2 base_Indices_i hca.1 (hra z hz))
      have HLB := Lib.hid (fun z (hz : Up w z) => run_cs (P := Tryz.prog) (k := 4) hu1 hu2 base_Indices_i hcb.1 (hrb z hz))
      have HC := Lib.hid (fun z (hz : Up w z) => base_Index z (.agg ca) (.agg cb) _ (AtV.up ixR_k ⟨ca, rfl, hca⟩ hz) (AtV.up ixR_k ⟨cb, rfl, hcb⟩ hz))
      have gas := Nat.lt_of_lt_of_le hga HUY.out.size
      have gbs := Nat.lt_of_lt_of_le hgb HUY.out.size
      clear hi1 hra hrb hga hgb hca hcb hu1 hu2
      go_upto_region 6 with fail
      refine wp_region_ext (by kernel_rfl) (by kernel_rfl) ?_
      iterate 3 (go_big_quiet_step (fail))
      refine wpQuiet_load (fun z hz => by obtain ⟨j, rfl⟩ := hz; exact HLA.out _ (HUY.out.trans j.up)) (by rfl) ?_
      simp only [Act.put, List.setIfInBounds_toArray, List.set_cons_succ, List.set_cons_zero]
      iterate 3 (go_big_quiet_step (fail))
      refine wpQuiet_load (fun z hz => by obtain ⟨j, rfl⟩ := hz; exact HLB.out _ (HUY.out.trans j.up)) (by rfl) ?_
      simp only [Act.put, List.setIfInBounds_toArray, List.set_cons_succ, List.set_cons_zero]
      repeat (go_big_quiet_step ((go_at_call 80; exact Calls.ext_of (HC.out _ (HUY.out.trans (Ext.up _))))))
      refine wpQuiet_nil ?_
      intro z hz
      have HUZ := Lib.hid (HUY.out.trans hz)
      clear hz gas gbs
      go_wp2
      go_roundw
      case rel => exact ⟨i + 1, by go_num, by omega, HUZ.out⟩
      case measure => simp [intOf]; omega
    · obtain rfl : n = i := by omega
      go_wp2
      go_ret
      exact ⟨rfl, HUY.out⟩
end Go.Proofs.YtpccaifhcmcegaaGreat
end
