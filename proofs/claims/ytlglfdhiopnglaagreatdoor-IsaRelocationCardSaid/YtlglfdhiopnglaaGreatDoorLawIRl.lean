/-
  IsaRelocation: the walk of the law.
-/
import Derived.Test.YtlglfdhiopnglaaGreatDoorIsEx
import Derived.Test.YtlglfdhiopnglaaGreatDoorIsTp
import Derived.Test.YtlglfdhiopnglaaGreatDoorPeOi
namespace Go.Proofs.YtlglfdhiopnglaaGreatDoor.isaRelocation
open Go.ChangeShapes Go.WideShapes Go.ChangeAt Go.RowKit
set_option linter.unusedVariables false
set_option linter.unusedSimpArgs false
set_option maxRecDepth 100000

theorem SlAt.slice' {w : World} {v : Value} {n k : Nat} {f : Nat → Nat → Value} (h : SlAt w v n k f) : (∃ a cap, v = .slice a n cap) ∧ n ≤ 9223372036854775807 := by
  obtain ⟨⟨a, cap, hv, _, _⟩, hm⟩ := h
  exact ⟨⟨a, cap, hv⟩, hm⟩
set_option maxHeartbeats 16000000 in
theorem walk (W : World) {v : Value} {l : List Ins} {c : Int} (w0 : InsAt W v l) (w1 : (Lit.int .i32 c).wf = true) (hF : RdW W ∧ FTab W ∧ ITab W ∧ WTab W) :
    Calls Tryz.prog 8 #[v, .int .i32 c] W fun e w' => e = .returned (.bool true) ∧ Up W w' := by
  have hc : -2147483648 ≤ c ∧ c ≤ 2147483647 := by
    have h : (decide (IntKind.min .i32 ≤ c) && decide (c ≤ IntKind.max .i32)) = true := w1
    rw [Bool.and_eq_true, decide_eq_true_eq, decide_eq_true_eq] at h
    have e1 : IntKind.min .i32 = -2147483648 := by decide
    have e2 : IntKind.max .i32 = 2147483647 := by decide
    omega
  obtain ⟨hR, hFt, hI, hW⟩ := hF
  have HEX := Lib.hid (fun x (hx : Up W x) => law_examples x (hR.up hx) (hFt.up hx) (hI.up hx) (hW.up hx))
  have HRL := Lib.hid (fun u m b x (hx : Up W x) (hu : InsAt x u m) (hm : m.length ≤ 100000) => isa_Relocate u m b x hu hm (hI.up hx))
  have HTG := Lib.hid (fun u m x (hx : Up W x) (hu : InsAt x u m) (hm : m.length ≤ 100000) => isa_Targets u m x hu hm (hI.up hx))
  have HSM := Lib.hid (fun a b x (ha : InsAt x a l) (hb : InsAt x b l) (hm : l.length ≤ 100000) => law_same a b l l x ha hb hm hm)
  rw [decide_eq_true (rfl : l = l)] at HSM
  have HV := Lib.hid w0
  have HBK := Lib.hid (map_back w0.2 c)
  have HTL := Lib.hid (targets_len w0.2 c)
  obtain ⟨⟨a, cap, rfl⟩, hmax⟩ := w0.slice
  obtain ⟨n, hn⟩ : ∃ n, l.length = n := ⟨_, rfl⟩
  rw [hn] at hmax ⊢
  have HN := Lib.hid hn
  have hc64 : IntKind.i64.wrap c = c := by rw [IntKind.wrap_i64]; omega
  have hneg : IntKind.i64.wrap (-c) = -c := by rw [IntKind.wrap_i64]; omega
  clear hn w0 w1 hR hFt hI hW
  go_enter Tryz.func8, Tryz.ntmps8
  by_cases h1 : 200 < n
  · have h1I : (200 : Int) < n := by omega
    go_wp2_with (go_at_call 9; refine (HEX.out _ (Up.refl _)).mono ?_; rintro e ze ⟨rfl, hze⟩)
    go_ret
    exact ⟨rfl, hze⟩
  · have h1I : ¬ (200 : Int) < n := by omega
    have HVK : Hid (InsAt W (.slice a n cap) l) := Lib.hid (by have := HV.out; rw [HN.out] at this; exact this)
    obtain ⟨m, hm⟩ : ∃ m, l.map (relI c) = m := ⟨_, rfl⟩
    have hml : m.length = n := by rw [← hm, List.length_map, HN.out]
    have HML := Lib.hid hml
    have HR1 : Hid (∀ x, Up W x → InsAt x (.slice a n cap) l → Calls Tryz.prog 23 #[.slice a n cap, .int .i64 c] x fun e w' => ∃ v', e = .returned v' ∧ Up x w' ∧ InsAt w' v' m) := Lib.hid (fun x hx hu => by have := HRL.out _ _ c x hx hu (by rw [HN.out]; omega); rw [hm] at this; exact this)
    have HR2 : Hid (∀ x u, Up W x → InsAt x u m → Calls Tryz.prog 23 #[u, .int .i64 (-c)] x fun e w' => ∃ v', e = .returned v' ∧ Up x w' ∧ InsAt w' v' l) := Lib.hid (fun x u hx hu => by have := HRL.out _ _ (-c) x hx hu (by rw [HML.out]; omega); rw [← hm, HBK.out] at this; exact this)
    have HT1 : Hid (∀ x, Up W x → Calls Tryz.prog 21 #[.slice a n cap] x fun e w' => ∃ v', e = .returned v' ∧ Up x w' ∧ IntsAt w' v' (sortI (tgtL l))) := Lib.hid (fun x hx => HTG.out _ _ x hx (HVK.out.up hx) (by rw [HN.out]; omega))
    have HT2 : Hid (∀ x u, Up W x → InsAt x u m → Calls Tryz.prog 21 #[u] x fun e w' => ∃ v', e = .returned v' ∧ Up x w' ∧ IntsAt w' v' (sortI (tgtL m))) := Lib.hid (fun x u hx hu => HTG.out _ _ x hx hu (by rw [HML.out]; omega))
    have HTE : Hid ((sortI (tgtL m)).length = (sortI (tgtL l)).length) := Lib.hid (by rw [← hm]; exact HTL.out)
    have HEL : Hid (∀ k, k < n → m.getD k i0 = relI c (l.getD k i0)) := Lib.hid (fun k hk => by
      rw [← hm, List.getD_eq_getElem?_getD, List.getD_eq_getElem?_getD, List.getElem?_map, List.getElem?_eq_getElem (by rw [HN.out]; exact hk)]; rfl)
    clear hm hml HRL HTG HBK HTL HV
    go_upto_region 4 with (go_at_call 23; refine (HR1.out _ (Up.refl _) HVK.out).mono ?_; rintro e z ⟨pv, rfl, hz, hpv⟩; have HUZ := Lib.hid hz; have HPV := Lib.hid hpv; clear hz hpv)
    obtain ⟨⟨pa, pc, rfl⟩, -⟩ := HPV.out.slice
    have HPM : Hid (InsAt z (.slice pa n pc) m) := Lib.hid (by have := HPV.out; rw [HML.out] at this; exact this)
    rw [HML.out]
    clear HPV HR1
    go_wp2_with (first
      | (go_at_call 18; refine (HSM.out _ _ _ HPV2.out (HVK.out.up HU2.out) (by rw [HN.out]; omega)).mono ?_; rintro e z3 ⟨rfl, hz3⟩; have HU3 := Lib.hid (HU2.out.trans hz3); have HZ3 := Lib.hid (HZ2.out.trans hz3); clear hz3)
      | (go_at_call 23; refine (HR2.out _ _ HUZ.out HPM.out).mono ?_; rintro e z2 ⟨pv2, rfl, hz2, hpv2⟩; have HU2 := Lib.hid (HUZ.out.trans hz2); have HZ2 := Lib.hid hz2; have HPV2 := Lib.hid hpv2; clear hz2 hpv2))
    clear HU2 HZ2 HPV2 HR2 HSM
    go_loopw [6] (fun kv wr => ∃ k : Nat, k ≤ n ∧ kv = .int .i64 k ∧ Up W wr ∧ Up z wr) (fun kv _ => n - (intOf kv).toNat)
    case atStart => exact ⟨0, by omega, rfl, HU3.out, HZ3.out⟩
    case round =>
      rename World => wr
      obtain ⟨k, hk, rfl, hU, hZ⟩ := hrel
      have HU := Lib.hid hU
      have HZ := Lib.hid hZ
      clear hU hZ HU3 HZ3
      by_cases hlt : k < n
      · have hltI : (k : Int) < n := by omega
        obtain ⟨x, hx⟩ : ∃ q, l.getD k i0 = q := ⟨_, rfl⟩
        obtain ⟨y, hy⟩ : ∃ q, m.getD k i0 = q := ⟨_, rfl⟩
        have hyx : y = relI c x := by rw [← hy, ← hx]; exact HEL.out k hlt
        obtain ⟨bl, off, ha, hbl, ⟨k0, k1, k2, k3, k4, k5, k6, k7, k8, k9, k10⟩, hxr⟩ := HVK.out.elem HU.out k (by rw [HN.out]; exact hlt) HN.out rfl hx
        obtain ⟨bm, ofm, hb, hbm, ⟨m0, m1, m2, m3, m4, m5, m6, m7, m8, m9, m10⟩, -⟩ := HPM.out.elem HZ.out k (by rw [HML.out]; exact hlt) HML.out rfl hy
        subst ha hb
        have hb1 : bl < wr.heap.size := Nat.lt_of_lt_of_le hbl HU.out.size
        have hb2 : bm < wr.heap.size := Nat.lt_of_lt_of_le hbm HZ.out.size
        obtain ⟨A2, hy2, hA2⟩ : ∃ A2, y = (x.1, A2, x.2.2) ∧ (IntKind.i64.wrap (A2 - c) = x.2.1 ∨ A2 = x.2.1) := by
          rw [hyx]
          unfold relI
          cases jumpsB x.1 with
          | true =>
            refine ⟨_, by rw [if_pos rfl], .inl ?_⟩
            have h1 : R64 x.2.1 := hxr 1
            rw [IntKind.wrap_i64, IntKind.wrap_i64]
            unfold R64 at h1
            omega
          | false => exact ⟨x.2.1, by rw [if_neg (by simp)], .inr rfl⟩
        subst hy2
        obtain ⟨op, A, b, cc, ⟨n1, d⟩, kd, bi, fr, ro, ov⟩ := x
        dsimp only at k0 k1 k2 k3 k4 k5 k6 k7 k8 k9 k10 m0 m1 m2 m3 m4 m5 m6 m7 m8 m9 m10 hA2
        clear hx hy hyx hxr hbl hbm
        have HBX : Hid (BoxC (wr.alloc (.cells #[.int .i64 op, .int .i64 A, .int .i64 b, .int .i64 cc, .int .i64 n1, .int .i64 d, .int .i64 kd, .int .i64 bi, .int .i64 fr, .int .i64 ro, .int .i64 ov] 42)) wr.heap.size 42 #[.int .i64 op, .int .i64 A, .int .i64 b, .int .i64 cc, .int .i64 n1, .int .i64 d, .int .i64 kd, .int .i64 bi, .int .i64 fr, .int .i64 ro, .int .i64 ov]) := Lib.hid (BoxC.new wr _ _)
        have HUA : Hid (Up wr (wr.alloc (.cells #[.int .i64 op, .int .i64 A, .int .i64 b, .int .i64 cc, .int .i64 n1, .int .i64 d, .int .i64 kd, .int .i64 bi, .int .i64 fr, .int .i64 ro, .int .i64 ov] 42))) := Lib.hid ((Up.refl wr).alloc _)
        have HA2 := Lib.hid hA2
        clear hA2
        go_upto_region 11 with (fail)
        generalize (wr.alloc (.cells #[.int .i64 op, .int .i64 A, .int .i64 b, .int .i64 cc, .int .i64 n1, .int .i64 d, .int .i64 kd, .int .i64 bi, .int .i64 fr, .int .i64 ro, .int .i64 ov] 42)) = q at *
        replace k0 := cell_up HUA.out k0
        replace k1 := cell_up HUA.out k1
        replace k2 := cell_up HUA.out k2
        replace k3 := cell_up HUA.out k3
        replace k4 := cell_up HUA.out k4
        replace k5 := cell_up HUA.out k5
        replace k6 := cell_up HUA.out k6
        replace k7 := cell_up HUA.out k7
        replace k8 := cell_up HUA.out k8
        replace k9 := cell_up HUA.out k9
        replace k10 := cell_up HUA.out k10
        replace m1 := cell_up HUA.out m1
        replace hb1 := Nat.lt_of_lt_of_le hb1 HUA.out.size
        replace hb2 := Nat.lt_of_lt_of_le hb2 HUA.out.size
        have hbq := HBX.out.lt
        have q0 := cell_of_row _ _ 0 _ _ _ HBX.out
        have q1 := cell_of_row _ _ 1 _ _ _ HBX.out
        have q2 := cell_of_row _ _ 2 _ _ _ HBX.out
        have q3 := cell_of_row _ _ 3 _ _ _ HBX.out
        have q4 := cell_of_row _ _ 4 _ _ _ HBX.out
        have q5 := cell_of_row _ _ 5 _ _ _ HBX.out
        have q6 := cell_of_row _ _ 6 _ _ _ HBX.out
        have q7 := cell_of_row _ _ 7 _ _ _ HBX.out
        have q8 := cell_of_row _ _ 8 _ _ _ HBX.out
        have q9 := cell_of_row _ _ 9 _ _ _ HBX.out
        have q10 := cell_of_row _ _ 10 _ _ _ HBX.out
        replace HU := Lib.hid (HU.out.trans HUA.out)
        replace HZ := Lib.hid (HZ.out.trans HUA.out)
        clear m0 m2 m3 m4 m5 m6 m7 m8 m9 m10
        by_cases hAA : A2 = A
        · subst hAA
          refine wp_region_ext (by kernel_rfl) (by kernel_rfl) ?_
          repeat (go_big_quiet_step (fail))
          refine wpQuiet_nil ?_
          intro p hp
          replace HU := Lib.hid (HU.out.trans hp)
          replace HZ := Lib.hid (HZ.out.trans hp)
          clear hp
          go_wp2
          go_roundw
          case rel => exact ⟨k + 1, by omega, by go_num, HU.out, HZ.out⟩
          case measure => simp [intOf]; omega
        · have hn1 : (A2 == A) = false := by rw [beq_eq_false_iff_ne]; exact hAA
          have hn2 : (A2 != A) = true := by rw [bne_iff_ne]; exact hAA
          have hw : IntKind.i64.wrap (A2 - c) = A := HA2.out.resolve_right hAA
          refine wp_region_ext (by kernel_rfl) (by kernel_rfl) ?_
          repeat (go_big_quiet_step (fail))
          refine wpQuiet_nil ?_
          intro p hp
          replace HU := Lib.hid (HU.out.trans hp)
          replace HZ := Lib.hid (HZ.out.trans hp)
          clear hp
          go_wp2
          go_roundw
          case rel => exact ⟨k + 1, by omega, by go_num, HU.out, HZ.out⟩
          case measure => simp [intOf]; omega
      · obtain rfl : k = n := by omega
        go_wp2_with (first
          | (go_at_call 9; refine (HEX.out _ HU5.out).mono ?_; rintro e ze ⟨rfl, hze⟩)
          | (go_at_call 21; refine (HT2.out _ _ HU4.out (HPM.out.up HZ4.out)).mono ?_; rintro e z5 ⟨t2, rfl, hz5, ht2⟩; obtain ⟨⟨ta2, tc2, rfl⟩, -⟩ := SlAt.slice' ht2; rw [HTE.out]; have HU5 := Lib.hid (HU4.out.trans hz5); clear hz5 ht2)
          | (go_at_call 21; refine (HT1.out _ HU.out).mono ?_; rintro e z4 ⟨t1, rfl, hz4, ht1⟩; obtain ⟨⟨ta1, tc1, rfl⟩, -⟩ := SlAt.slice' ht1; have HU4 := Lib.hid (HU.out.trans hz4); have HZ4 := Lib.hid (HZ.out.trans hz4); clear hz4 ht1))
        go_ret
        exact ⟨rfl, HU5.out.trans hze⟩
end Go.Proofs.YtlglfdhiopnglaaGreatDoor.isaRelocation
