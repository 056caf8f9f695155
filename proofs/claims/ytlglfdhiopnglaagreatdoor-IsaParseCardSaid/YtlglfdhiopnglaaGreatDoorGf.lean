/-
  Joined by a program: IsW, IsY.
-/
import Derived.Test.YtlglfdhiopnglaaGreatDoorGe

section
namespace Go.Proofs.YtlglfdhiopnglaaGreatDoor
open Go.ChangeShapes Go.WideShapes Go.ChangeAt Go.RowKit
set_option linter.unusedVariables false
set_option linter.unusedSimpArgs false
set_option maxRecDepth 100000

theorem BoxC.set1 {w : World} {g : Nat} {t : TypeId} {a b c d e : Value} (h : BoxC w g t #[a, b, c, d, e]) (u : Value) : BoxC (w.setCell ⟨g, 1, none⟩ u) g t #[a, u, c, d, e] := set_heap (o := 1) h u
theorem BoxC.set2 {w : World} {g : Nat} {t : TypeId} {a b c d e : Value} (h : BoxC w g t #[a, b, c, d, e]) (u : Value) : BoxC (w.setCell ⟨g, 2, none⟩ u) g t #[a, b, u, d, e] := set_heap (o := 2) h u
theorem BoxC.set3 {w : World} {g : Nat} {t : TypeId} {a b c d e : Value} (h : BoxC w g t #[a, b, c, d, e]) (u : Value) : BoxC (w.setCell ⟨g, 3, none⟩ u) g t #[a, b, c, u, e] := set_heap (o := 3) h u
theorem BoxC.set4 {w : World} {g : Nat} {t : TypeId} {a b c d e : Value} (h : BoxC w g t #[a, b, c, d, e]) (u : Value) : BoxC (w.setCell ⟨g, 4, none⟩ u) g t #[a, b, c, d, u] := set_heap (o := 4) h u
theorem getD_map_toList (l : List ByteArray) (k : Nat) : (l.map (·.toList)).getD k [] = (l.getD k ⟨#[]⟩).toList := by
  rw [List.getD_eq_getElem?_getD, List.getD_eq_getElem?_getD, List.getElem?_map]
  cases l[k]? with
  | none => show [] = (⟨#[]⟩ : ByteArray).toList; rw [Lib.toList_data]
  | some x => rfl

set_option maxHeartbeats 8000000 in
theorem isa_readType (a : Option Addr) (n c : Nat) (l : List ByteArray) (w : World) (h : StrsAt w (.slice a n c) l) (hn : l.length = n) (hs : ∀ k, (l.getD k ⟨#[]⟩).size ≤ 1000000) (hR : RdW w) :
    Calls Tryz.prog 94 #[.slice a n c] w fun e w' => e = .returned (typV (rdType (l.map (·.toList)))) ∧ Up w w' := by
  obtain ⟨T, hT⟩ : ∃ T, rdType (l.map (·.toList)) = T := ⟨_, rfl⟩
  rw [hT]
  unfold rdType at hT
  rw [List.length_map, hn, getD_map_toList, getD_map_toList, getD_map_toList, getD_map_toList, getD_map_toList] at hT
  have HH := Lib.hid h
  have HS := Lib.hid hs
  have HRR := Lib.hid hR
  have HTT := Lib.hid hT
  have hmx := h.max
  have hnm : n ≤ 9223372036854775807 := by rw [← hn]; exact hmx
  clear h hs hR hT hn hmx
  by_cases h1 : n = 1
  · subst h1
    obtain ⟨g, o, rfl, hgl, hc0⟩ := HH.out.get rfl 0 (by decide)
    obtain ⟨s0, hs0⟩ : ∃ s, l.getD 0 ⟨#[]⟩ = s := ⟨_, rfl⟩
    rw [hs0] at hc0 HTT
    rw [Nat.add_zero] at hc0
    by_cases hf : s0.toList = [102, 114, 97, 99]
    · have HE : Hid (T = (1, 0, 0, 0, 0)) := Lib.hid (by rw [← HTT.out, if_pos ⟨rfl, hf⟩])
      have qf : (s0.toList == [102, 114, 97, 99]) = true := by simpa using hf
      clear HTT hf
      go_enter Tryz.func94, Tryz.ntmps94
      go_wp2
      refine bodyPost_ret (v := .agg #[.int .i64 1, .int .i64 0, .int .i64 0, .int .i64 0, .int .i64 0]) (by simp [results, Tryz.results94, go_sem, *]) rfl ?_
      exact ⟨by rw [HE.out], (Up.refl w).alloc _⟩
    by_cases hi : s0.toList = [105, 110, 116]
    · have HE : Hid (T = (3, 0, 0, 0, 0)) := Lib.hid (by rw [← HTT.out, if_neg (fun h => hf h.2), if_pos ⟨rfl, hi⟩])
      have qf : (s0.toList == [102, 114, 97, 99]) = false := by simpa using hf
      have qi : (s0.toList == [105, 110, 116]) = true := by simpa using hi
      clear HTT hf hi
      go_enter Tryz.func94, Tryz.ntmps94
      go_wp2
      refine bodyPost_ret (v := .agg #[.int .i64 3, .int .i64 0, .int .i64 0, .int .i64 0, .int .i64 0]) (by simp [results, Tryz.results94, go_sem, *]) rfl ?_
      exact ⟨by rw [HE.out], (Up.refl w).alloc _⟩
    have HE : Hid (T = y0) := Lib.hid (by rw [← HTT.out, if_neg (fun h => hf h.2), if_neg (fun h => hi h.2), if_pos (.inl (by decide))])
    have qf : (s0.toList == [102, 114, 97, 99]) = false := by simpa using hf
    have qi : (s0.toList == [105, 110, 116]) = false := by simpa using hi
    clear HTT hf hi
    go_enter Tryz.func94, Tryz.ntmps94
    go_wp2
    refine bodyPost_ret (v := .agg #[.int .i64 0, .int .i64 0, .int .i64 0, .int .i64 0, .int .i64 0]) (by simp [results, Tryz.results94, go_sem, *]) rfl ?_
    exact ⟨by rw [HE.out], (Up.refl w).alloc _⟩
  by_cases h5 : n = 5
  rotate_left
  · have HE : Hid (T = y0) := Lib.hid (by rw [← HTT.out, if_neg (fun h => h1 h.1), if_neg (fun h => h1 h.1), if_pos (.inl h5)])
    have q1 : ((n : Int) == 1) = false := by simp; omega
    have q5 : ((n : Int) != 5) = true := by simp; omega
    clear HTT h1 h5
    go_enter Tryz.func94, Tryz.ntmps94
    go_wp2
    refine bodyPost_ret (v := .agg #[.int .i64 0, .int .i64 0, .int .i64 0, .int .i64 0, .int .i64 0]) (by simp [results, Tryz.results94, go_sem, *]) rfl ?_
    exact ⟨by rw [HE.out], (Up.refl w).alloc _⟩
  subst h5
  clear h1
  obtain ⟨g, o, rfl, hgl, hc0⟩ := HH.out.get rfl 0 (by decide)
  obtain ⟨_, _, e, -, hc1⟩ := HH.out.get rfl 1 (by decide)
  cases e
  obtain ⟨_, _, e, -, hc2⟩ := HH.out.get rfl 2 (by decide)
  cases e
  obtain ⟨_, _, e, -, hc3⟩ := HH.out.get rfl 3 (by decide)
  cases e
  obtain ⟨_, _, e, -, hc4⟩ := HH.out.get rfl 4 (by decide)
  cases e
  have z1 := HS.out 1
  have z2 := HS.out 2
  obtain ⟨s0, hs0⟩ : ∃ s, l.getD 0 ⟨#[]⟩ = s := ⟨_, rfl⟩
  obtain ⟨s1, hs1⟩ : ∃ s, l.getD 1 ⟨#[]⟩ = s := ⟨_, rfl⟩
  obtain ⟨s2, hs2⟩ : ∃ s, l.getD 2 ⟨#[]⟩ = s := ⟨_, rfl⟩
  obtain ⟨s3, hs3⟩ : ∃ s, l.getD 3 ⟨#[]⟩ = s := ⟨_, rfl⟩
  obtain ⟨s4, hs4⟩ : ∃ s, l.getD 4 ⟨#[]⟩ = s := ⟨_, rfl⟩
  rw [hs0, hs1, hs2, hs3, hs4] at HTT
  rw [hs0] at hc0
  rw [hs1] at hc1 z1
  rw [hs2] at hc2 z2
  rw [hs3] at hc3
  rw [hs4] at hc4
  rw [Nat.add_zero] at hc0
  clear hs0 hs1 hs2 hs3 hs4 HH HS hnm
  by_cases hf : s0.toList = [102, 105, 120]
  rotate_left
  · have HE : Hid (T = y0) := Lib.hid (by rw [← HTT.out, if_neg (fun h => absurd h.1 (by decide)), if_neg (fun h => absurd h.1 (by decide)), if_pos (.inr hf)])
    have q1 : (!s0.toList == [102, 105, 120]) = true := by simpa using hf
    clear HTT hf
    go_enter Tryz.func94, Tryz.ntmps94
    go_wp2
    refine bodyPost_ret (v := .agg #[.int .i64 0, .int .i64 0, .int .i64 0, .int .i64 0, .int .i64 0]) (by simp [results, Tryz.results94, go_sem, *]) rfl ?_
    exact ⟨by rw [HE.out], (Up.refl w).alloc _⟩
  have HE : Hid (T = (2, atoiV s1.toList, atoiV s2.toList, rdLast rndL s3.toList 4, rdLast ovrL s4.toList 2)) := Lib.hid (by
    rw [← HTT.out, if_neg (fun h => absurd h.1 (by decide)), if_neg (fun h => absurd h.1 (by decide)), if_neg (fun h => h.elim (fun h => h rfl) (fun h => h hf))]; rfl)
  have HA1 := Lib.hid (fun x (hx : Up w x) => s_Atoi s1 z1 x (HRR.out.up hx))
  have HA2 := Lib.hid (fun x (hx : Up w x) => s_Atoi s2 z2 x (HRR.out.up hx))
  generalize atoiV s1.toList = v1 at *
  generalize atoiV s2.toList = v2 at *
  have HC2 := Lib.hid hc2
  have HC3 := Lib.hid hc3
  have HC4 := Lib.hid hc4
  obtain ⟨l3, hl3⟩ : ∃ q, s3.toList = q := ⟨_, rfl⟩
  obtain ⟨l4, hl4⟩ : ∃ q, s4.toList = q := ⟨_, rfl⟩
  rw [hl3, hl4] at HE
  have HRN := Lib.hid (fun k x => calls_up (isa_rounding k x))
  have HOV := Lib.hid (fun k x => calls_up (isa_overflow k x))
  have HU1 : Hid (Up w ((w.alloc (.cells #[.int .i64 0, .int .i64 0, .int .i64 0, .int .i64 0, .int .i64 0] 40)).alloc (.cells #[.int .i64 2, .int .i64 0, .int .i64 0, .int .i64 0, .int .i64 0] 40))) := Lib.hid (((Up.refl w).alloc _).alloc _)
  have B0 : Hid (BoxC ((w.alloc (.cells #[.int .i64 0, .int .i64 0, .int .i64 0, .int .i64 0, .int .i64 0] 40)).alloc (.cells #[.int .i64 2, .int .i64 0, .int .i64 0, .int .i64 0, .int .i64 0] 40)) w.heap.size 40 #[.int .i64 0, .int .i64 0, .int .i64 0, .int .i64 0, .int .i64 0]) := Lib.hid ((BoxC.new w _ _).up ((Up.refl _).alloc _))
  have B1 : Hid (BoxC ((w.alloc (.cells #[.int .i64 0, .int .i64 0, .int .i64 0, .int .i64 0, .int .i64 0] 40)).alloc (.cells #[.int .i64 2, .int .i64 0, .int .i64 0, .int .i64 0, .int .i64 0] 40)) (w.heap.size + 1) 40 #[.int .i64 2, .int .i64 0, .int .i64 0, .int .i64 0, .int .i64 0]) := Lib.hid (BoxC.new2 w _ _ _)
  have q1 : (!s0.toList == [102, 105, 120]) = false := by simpa using hf
  clear HTT z1 z2 HRR hf
  go_enter Tryz.func94, Tryz.ntmps94
  go_upto_region 9 with (go_at_call 92; refine (HA1.out _ HU1.out).mono ?_; rintro e x1 ⟨ev1, rfl, hx⟩; replace HU1 := Lib.hid (HU1.out.trans hx); replace B0 := Lib.hid (B0.out.up hx); replace B1 := Lib.hid (B1.out.up hx); clear hx; obtain ⟨t0, t1, t2, t3, t4⟩ := B1.out.five; have tf := B1.out.frozen)
  refine wp_gen (F := fun v => BoxC v (w.heap.size + 1) 40 #[.int .i64 2, .int .i64 v1, .int .i64 0, .int .i64 0, .int .i64 0] ∧ BoxC v w.heap.size 40 #[.int .i64 0, .int .i64 0, .int .i64 0, .int .i64 0, .int .i64 0] ∧ Up w v) ⟨B1.out.set1 _, B0.out.ne (b := w.heap.size + 1) (by omega) 1 (.int .i64 v1), HU1.out.setCell (p := ⟨w.heap.size + 1, 1, none⟩) (by show w.heap.size ≤ w.heap.size + 1; omega) (.int .i64 v1)⟩ ?_
  rintro y ⟨V1, V0, VU⟩
  replace B1 := Lib.hid V1
  replace B0 := Lib.hid V0
  replace HU1 := Lib.hid VU
  clear V1 V0 VU t0 t1 t2 t3 t4 tf hc0 hc1 hc2 hc3 hc4
  have hc2 := cell_up HU1.out HC2.out
  go_upto_region 10 with (go_at_call 92; refine (HA2.out _ HU1.out).mono ?_; rintro e x2 ⟨ev2, rfl, hx⟩; replace HU1 := Lib.hid (HU1.out.trans hx); replace B0 := Lib.hid (B0.out.up hx); replace B1 := Lib.hid (B1.out.up hx); clear hx hc2; obtain ⟨t0, t1, t2, t3, t4⟩ := B1.out.five; have tf := B1.out.frozen)
  refine wp_gen (F := fun v => BoxC v (w.heap.size + 1) 40 #[.int .i64 2, .int .i64 v1, .int .i64 v2, .int .i64 0, .int .i64 0] ∧ BoxC v w.heap.size 40 #[.int .i64 0, .int .i64 0, .int .i64 0, .int .i64 0, .int .i64 0] ∧ Up w v) ⟨B1.out.set2 _, B0.out.ne (b := w.heap.size + 1) (by omega) 2 (.int .i64 v2), HU1.out.setCell (p := ⟨w.heap.size + 1, 2, none⟩) (by show w.heap.size ≤ w.heap.size + 1; omega) (.int .i64 v2)⟩ ?_
  rintro y2 ⟨V1, V0, VU⟩
  have HB1 := Lib.hid V1
  have HB0 := Lib.hid V0
  have HUY := Lib.hid VU
  clear V1 V0 VU t0 t1 t2 t3 t4 tf B1 B0 HU1 HA1 HA2
  go_wp2
  go_loopw [4] (fun kv wr => ∃ k : Nat, kv = .int .i64 ((k : Int) + 1) ∧ k ≤ 4 ∧ BoxC wr (w.heap.size + 1) 40 #[.int .i64 2, .int .i64 v1, .int .i64 v2, .int .i64 (rdLast rndL l3 k), .int .i64 0] ∧ BoxC wr w.heap.size 40 #[.int .i64 0, .int .i64 0, .int .i64 0, .int .i64 0, .int .i64 0] ∧ Up w wr) (fun kv _ => 5 - (intOf kv).toNat)
  case atStart => exact ⟨0, rfl, by decide, HB1.out, HB0.out, HUY.out⟩
  case round =>
    rename World => wr
    obtain ⟨k, rfl, hk, hb1, hb0, hu⟩ := hrel
    have B1 := Lib.hid hb1
    have B0 := Lib.hid hb0
    have HU := Lib.hid hu
    clear hb1 hb0 hu
    by_cases hlt : k < 4
    · have hltI : (k : Int) + 1 ≤ 4 := by omega
      have hcc := cell_up HU.out HC3.out
      have hgw : g < wr.heap.size := Nat.lt_of_lt_of_le hgl HU.out.size
      obtain ⟨rl, hrl⟩ : ∃ rl, rndL ((k : Int) + 1) = rl := ⟨_, rfl⟩
      have HK := Lib.hid (fun x => HRN.out ((k : Int) + 1) x)
      rw [hrl] at HK
      have HRL := Lib.hid hrl
      clear hrl
      by_cases he : rl = l3
      · have HN2 : Hid (rdLast rndL l3 (k + 1) = (k : Int) + 1) := Lib.hid (by unfold rdLast; rw [HRL.out, if_pos he])
        have hq : ((bst rl).toList == l3) = true := by rw [bst_list]; simpa using he
        clear he
        go_wp2
        refine wp_region_ext (by kernel_rfl) (by kernel_rfl) ?_
        repeat (go_big_quiet_step ((go_at_call 117; exact Calls.ext_of (HK.out _))))
        refine wpQuiet_nil ?_
        intro x hx
        replace HU := Lib.hid (HU.out.trans hx)
        replace B1 := Lib.hid (B1.out.up hx)
        replace B0 := Lib.hid (B0.out.up hx)
        clear hx hcc
        obtain ⟨t0, t1, t2, t3, t4⟩ := B1.out.five
        have tf := B1.out.frozen
        go_wp2
        have B1N := Lib.hid (B1.out.set3 (.int .i64 ((k : Int) + 1)))
        have B0N := Lib.hid (B0.out.ne (b := w.heap.size + 1) (by omega) 3 (.int .i64 ((k : Int) + 1)))
        have HUN := Lib.hid (HU.out.setCell (p := ⟨w.heap.size + 1, 3, none⟩) (by show w.heap.size ≤ w.heap.size + 1; omega) (.int .i64 ((k : Int) + 1)))
        go_roundw
        case rel => exact ⟨k + 1, by go_num, by omega, by rw [HN2.out]; exact B1N.out, B0N.out, HUN.out⟩
        case measure => simp [intOf]; omega
      · have HN2 : Hid (rdLast rndL l3 (k + 1) = rdLast rndL l3 k) := Lib.hid (by rw [rdLast, HRL.out, if_neg he])
        have hq : ((bst rl).toList == l3) = false := by rw [bst_list]; simpa using he
        clear he
        go_wp2
        refine wp_region_ext (by kernel_rfl) (by kernel_rfl) ?_
        repeat (go_big_quiet_step ((go_at_call 117; exact Calls.ext_of (HK.out _))))
        refine wpQuiet_nil ?_
        intro x hx
        replace HU := Lib.hid (HU.out.trans hx)
        replace B1 := Lib.hid (B1.out.up hx)
        replace B0 := Lib.hid (B0.out.up hx)
        clear hx hcc
        go_wp2
        go_roundw
        case rel => exact ⟨k + 1, by go_num, by omega, by rw [HN2.out]; exact B1.out, B0.out, HU.out⟩
        case measure => simp [intOf]; omega
    · have hge : ¬ (k : Int) + 1 ≤ 4 := by omega
      obtain rfl : k = 4 := by omega
      go_wp2
      go_loopw [5] (fun kv wr => ∃ k : Nat, kv = .int .i64 ((k : Int) + 1) ∧ k ≤ 2 ∧ BoxC wr (w.heap.size + 1) 40 #[.int .i64 2, .int .i64 v1, .int .i64 v2, .int .i64 (rdLast rndL l3 4), .int .i64 (rdLast ovrL l4 k)] ∧ BoxC wr w.heap.size 40 #[.int .i64 0, .int .i64 0, .int .i64 0, .int .i64 0, .int .i64 0] ∧ Up w wr) (fun kv _ => 3 - (intOf kv).toNat)
      case atStart => exact ⟨0, rfl, by decide, B1.out, B0.out, HU.out⟩
      case round =>
        rename World => wr
        obtain ⟨k, rfl, hk, hb1, hb0, hu⟩ := hrel
        have B1 := Lib.hid hb1
        have B0 := Lib.hid hb0
        have HU := Lib.hid hu
        clear hb1 hb0 hu
        by_cases hlt : k < 2
        · have hltI : (k : Int) + 1 ≤ 2 := by omega
          have hcc := cell_up HU.out HC4.out
          have hgw : g < wr.heap.size := Nat.lt_of_lt_of_le hgl HU.out.size
          obtain ⟨rl, hrl⟩ : ∃ rl, ovrL ((k : Int) + 1) = rl := ⟨_, rfl⟩
          have HK := Lib.hid (fun x => HOV.out ((k : Int) + 1) x)
          rw [hrl] at HK
          have HRL := Lib.hid hrl
          clear hrl
          by_cases he : rl = l4
          · have HN2 : Hid (rdLast ovrL l4 (k + 1) = (k : Int) + 1) := Lib.hid (by unfold rdLast; rw [HRL.out, if_pos he])
            have hq : ((bst rl).toList == l4) = true := by rw [bst_list]; simpa using he
            clear he
            go_wp2
            refine wp_region_ext (by kernel_rfl) (by kernel_rfl) ?_
            repeat (go_big_quiet_step ((go_at_call 118; exact Calls.ext_of (HK.out _))))
            refine wpQuiet_nil ?_
            intro x hx
            replace HU := Lib.hid (HU.out.trans hx)
            replace B1 := Lib.hid (B1.out.up hx)
            replace B0 := Lib.hid (B0.out.up hx)
            clear hx hcc
            obtain ⟨t0, t1, t2, t3, t4⟩ := B1.out.five
            have tf := B1.out.frozen
            go_wp2
            have B1N := Lib.hid (B1.out.set4 (.int .i64 ((k : Int) + 1)))
            have B0N := Lib.hid (B0.out.ne (b := w.heap.size + 1) (by omega) 4 (.int .i64 ((k : Int) + 1)))
            have HUN := Lib.hid (HU.out.setCell (p := ⟨w.heap.size + 1, 4, none⟩) (by show w.heap.size ≤ w.heap.size + 1; omega) (.int .i64 ((k : Int) + 1)))
            go_roundw
            case rel => exact ⟨k + 1, by go_num, by omega, by rw [HN2.out]; exact B1N.out, B0N.out, HUN.out⟩
            case measure => simp [intOf]; omega
          · have HN2 : Hid (rdLast ovrL l4 (k + 1) = rdLast ovrL l4 k) := Lib.hid (by rw [rdLast, HRL.out, if_neg he])
            have hq : ((bst rl).toList == l4) = false := by rw [bst_list]; simpa using he
            clear he
            go_wp2
            refine wp_region_ext (by kernel_rfl) (by kernel_rfl) ?_
            repeat (go_big_quiet_step ((go_at_call 118; exact Calls.ext_of (HK.out _))))
            refine wpQuiet_nil ?_
            intro x hx
            replace HU := Lib.hid (HU.out.trans hx)
            replace B1 := Lib.hid (B1.out.up hx)
            replace B0 := Lib.hid (B0.out.up hx)
            clear hx hcc
            go_wp2
            go_roundw
            case rel => exact ⟨k + 1, by go_num, by omega, by rw [HN2.out]; exact B1.out, B0.out, HU.out⟩
            case measure => simp [intOf]; omega
        · have hge : ¬ (k : Int) + 1 ≤ 2 := by omega
          obtain rfl : k = 2 := by omega
          obtain ⟨t0, t1, t2, t3, t4⟩ := B1.out.five
          obtain ⟨u0, u1, u2, u3, u4⟩ := B0.out.five
          have uf := B0.out.frozen
          go_wp2
          have HUF := Lib.hid ((((((HU.out).setCell (p := ⟨w.heap.size, 0, none⟩) (Nat.le_refl _) (.int .i64 2)).setCell (p := ⟨w.heap.size, 1, none⟩) (Nat.le_refl _) (.int .i64 v1)).setCell (p := ⟨w.heap.size, 2, none⟩) (Nat.le_refl _) (.int .i64 v2)).setCell (p := ⟨w.heap.size, 3, none⟩) (Nat.le_refl _) (.int .i64 (rdLast rndL l3 4))).setCell (p := ⟨w.heap.size, 4, none⟩) (Nat.le_refl _) (.int .i64 (rdLast ovrL l4 2)))
          refine bodyPost_ret (v := .agg #[.int .i64 2, .int .i64 v1, .int .i64 v2, .int .i64 (rdLast rndL l3 4), .int .i64 (rdLast ovrL l4 2)]) (by simp [results, Tryz.results94, go_sem, *]) rfl ?_
          exact ⟨by rw [HE.out], HUF.out⟩
end Go.Proofs.YtlglfdhiopnglaaGreatDoor
end

section
namespace Go.Proofs.YtlglfdhiopnglaaGreatDoor
open Go.ChangeShapes Go.WideShapes Go.ChangeAt Go.RowKit
set_option linter.unusedVariables false
set_option linter.unusedSimpArgs false
set_option maxRecDepth 100000

def dgB (c : UInt8) : Bool := decide (48 ≤ c.toNat ∧ c.toNat ≤ 57)
/-- Decimal digits without a leading zero. -/
def decB (l : List UInt8) : Bool := l.all dgB && (decide (l = [48]) || (!l.isEmpty && decide (l.headD 0 ≠ 48)))
/-- What ParseInt gives at base 10 and 64 bits, its error left aside. -/
def pintV (s : List UInt8) : Int := match Lib.parseIntB 64 s with
  | .ok v => v
  | Lib.NumEnd.syntax => 0
  | .range => Lib.intSat 64 s
def bndF (s : List UInt8) : Int × Bool := if 10 < s.length then (0, false) else (pintV s, decide (pintV s ≤ 2147483647))
theorem take_snoc (s : ByteArray) (k : Nat) (h : k < s.size) : s.data.toList.take (k + 1) = s.data.toList.take k ++ [s[k]] := by
  rw [List.take_succ_eq_append_getElem (by simpa using h)]; rfl

set_option maxHeartbeats 4000000 in
theorem frac_decimal (s : ByteArray) (hs : s.size ≤ 1000000) (w : World) : Calls Tryz.prog 132 #[.string s] w fun e w' => e = .returned (.bool (decB s.toList)) ∧ w' = w := by
  obtain ⟨r, hr⟩ : ∃ r, decB s.toList = r := ⟨_, rfl⟩
  rw [hr]
  rw [Lib.toList_data] at hr
  have HR := Lib.hid hr
  clear hr
  go_enter Tryz.func132, Tryz.ntmps132
  go_wp2
  go_loopw [3] (fun iv wr => ∃ k : Nat, iv = .int .i64 k ∧ k ≤ s.size ∧ (s.data.toList.take k).all dgB = true ∧ wr = w) (fun iv _ => s.size - (intOf iv).toNat)
  case atStart => exact ⟨0, rfl, by omega, rfl, rfl⟩
  case round =>
    obtain ⟨k, rfl, hk, hall, hw⟩ := hrel
    replace hw := hw.symm
    subst hw
    have HA := Lib.hid hall
    clear hall
    by_cases hlt : k < s.size
    · have hts := take_snoc s k hlt
      have hltI : (k : Int) < s.size := by omega
      by_cases hd : 48 ≤ (s[k].toNat : Int) ∧ (s[k].toNat : Int) ≤ 57
      · have HN : Hid ((s.data.toList.take (k + 1)).all dgB = true) := Lib.hid (by
          rw [hts, List.all_append, HA.out]
          simp only [List.all_cons, List.all_nil, Bool.and_true, Bool.true_and, dgB, decide_eq_true_eq]
          omega)
        obtain ⟨d1, d2⟩ := hd
        clear hts
        go_wp2
        go_roundw
        case rel => exact ⟨k + 1, by go_num, by omega, HN.out, by trivial⟩
        case measure => simp [intOf]; omega
      · have HE : Hid (r = false) := Lib.hid (by
          rw [← HR.out]
          unfold decB
          have : s.data.toList.all dgB = false := by
            rw [← List.take_append_drop (k + 1) s.data.toList, List.all_append, hts, List.all_append]
            have : dgB s[k] = false := by
              unfold dgB
              simp only [decide_eq_false_iff_not]
              omega
            simp [this]
          rw [this]; rfl)
        clear hts
        by_cases d1 : (s[k].toNat : Int) < 48
        · clear hd
          go_wp2
          go_ret
          exact ⟨ret_bool HE.out.symm, rfl⟩
        · have d2 : 57 < (s[k].toNat : Int) := by omega
          clear hd
          go_wp2
          go_ret
          exact ⟨ret_bool HE.out.symm, rfl⟩
    · obtain rfl : k = s.size := by omega
      have hall : s.data.toList.all dgB = true := by
        have := HA.out
        rwa [List.take_of_length_le (by rw [Lib.size_eq]; exact Nat.le_refl _)] at this
      have HE : Hid ((decide (s.data.toList = [48]) || (!s.data.toList.isEmpty && decide (s.data.toList.headD 0 ≠ 48))) = r) := Lib.hid (by
        rw [← HR.out]
        unfold decB
        rw [hall]; rfl)
      have hge : ¬ ((s.size : Nat) : Int) < s.size := by omega
      clear hall HA
      by_cases e1 : s.toList = [48]
      · have q1 : (s.toList == [48]) = true := by simpa using e1
        have HF : Hid (r = true) := Lib.hid (by rw [← HE.out, ← Lib.toList_data, e1]; rfl)
        clear e1 HE
        go_wp2
        go_ret
        exact ⟨ret_bool HF.out.symm, rfl⟩
      have q1 : (s.toList == [48]) = false := by simpa using e1
      by_cases e2 : s.size = 0
      · have hnil : s.data.toList = [] := List.eq_nil_of_length_eq_zero (by rw [← Lib.size_eq]; exact e2)
        have q2 : s.toList.isEmpty = true := by rw [Lib.toList_data, hnil]; rfl
        have HF : Hid (r = false) := Lib.hid (by rw [← HE.out, hnil]; rfl)
        clear e1 e2 hnil HE
        go_wp2
        go_ret
        exact ⟨ret_bool HF.out.symm, rfl⟩
      · have h0 : 0 < s.size := by omega
        have h0I : (0 : Int) < s.size := by omega
        obtain ⟨c, t, hct⟩ : ∃ c t, s.data.toList = c :: t := by
          cases h : s.data.toList with
          | nil => rw [Lib.size_eq, h] at h0; exact absurd h0 (by simp)
          | cons c t => exact ⟨c, t, rfl⟩
        have hc : s[0] = c := by
          show s.data[0] = c
          have : s.data.toList[0]'(by rw [hct]; simp) = c := by simp [hct]
          rw [← this, Array.getElem_toList]
        have q2 : s.toList.isEmpty = false := by rw [Lib.toList_data, hct]; rfl
        have HF : Hid (decide (c ≠ 48) = r) := Lib.hid (by
          rw [← HE.out, hct]
          have : decide (c :: t = [48]) = false := by
            rw [decide_eq_false_iff_not, ← hct, ← Lib.toList_data]; exact e1
          rw [this]; rfl)
        by_cases e3 : c = 48
        · have q3 : ((s[0].toNat : Int) != 48) = false := by rw [hc, e3]; rfl
          have HG : Hid (r = false) := Lib.hid (by rw [← HF.out, e3]; rfl)
          clear e1 e2 HE HF hct hc e3
          go_wp2
          go_ret
          exact ⟨ret_bool HG.out.symm, rfl⟩
        · have q3 : ((s[0].toNat : Int) != 48) = true := by
            rw [hc]
            simp only [bne_iff_ne, ne_eq]
            intro h
            apply e3
            apply UInt8.toNat_inj.1
            have : (48 : UInt8).toNat = 48 := rfl
            omega
          have HG : Hid (r = true) := Lib.hid (by rw [← HF.out]; simpa using e3)
          clear e1 e2 HE HF hct hc e3
          go_wp2
          go_ret
          exact ⟨ret_bool HG.out.symm, rfl⟩
set_option maxHeartbeats 4000000 in
theorem s_ParseInt (s : ByteArray) (hs : s.size ≤ 1000000) (w : World) (hR : RdW w) :
    Calls Tryz.prog 159 #[.string s, .int .i64 10, .int .i64 64] w fun e w' => ∃ ev, e = .returned (.tuple #[.int .i64 (pintV s.toList), ev]) ∧ Up w w' := by
  rw [Lib.toList_data]
  unfold pintV
  match h : Lib.parseIntB 64 s.data.toList with
  | .ok v =>
    refine (Tryz.strconv_ParseInt_10_at64_ok s (by omega) v h w).mono fun e w' ⟨h1, h2⟩ => ⟨_, h1, ?_⟩
    rcases h2 with rfl | ⟨t, rfl⟩
    · exact Up.refl _
    · exact up_bytes (Up.refl _) _ _
  | Lib.NumEnd.syntax =>
    obtain ⟨tp, p, hv⟩ := hR.es
    refine (Tryz.strconv_ParseInt_10_at64_syntax s (by omega) h _ w hv (.inr ⟨tp, p, rfl⟩)).mono fun e w' ⟨N, h1, _, _, h2⟩ => ⟨_, h1, h2⟩
  | .range =>
    obtain ⟨tp, p, hv⟩ := hR.er
    refine (Tryz.strconv_ParseInt_10_at64_range s (by omega) h _ w hv (.inr ⟨tp, p, rfl⟩)).mono fun e w' ⟨N, h1, _, _, h2⟩ => ⟨_, h1, h2⟩
set_option maxHeartbeats 4000000 in
theorem frac_bounded (s : ByteArray) (hs : s.size ≤ 1000000) (w : World) (hR : RdW w) : Calls Tryz.prog 133 #[.string s] w fun e w' => e = .returned (.tuple #[.int .i64 (bndF s.toList).1, .bool (bndF s.toList).2]) ∧ Up w w' := by
  have hsz : s.toList.length = s.size := by rw [Lib.toList_data, Lib.size_eq]
  have HP := Lib.hid (s_ParseInt s hs w hR)
  unfold bndF
  rw [hsz]
  generalize pintV s.toList = v at *
  clear hsz hR
  by_cases h : 10 < s.size
  · have hI : 10 < (s.size : Int) := by omega
    rw [if_pos h]
    clear HP
    go_enter Tryz.func133, Tryz.ntmps133
    go_wp2
    go_ret2
    exact ⟨rfl, Up.refl _⟩
  · have hI : ¬ 10 < (s.size : Int) := by omega
    rw [if_neg h]
    go_enter Tryz.func133, Tryz.ntmps133
    go_wp2_with (go_at_call 159; refine HP.out.mono ?_; rintro e x ⟨ev, rfl, hx⟩; have HX := Lib.hid hx; clear hx)
    go_ret2
    exact ⟨rfl, HX.out⟩
end Go.Proofs.YtlglfdhiopnglaaGreatDoor
end
