/-
  The law's same; Mnemonic of isa.
-/
import Derived.Test.YtlglfdhiopnglaaGreatDoorIsH
import Derived.Test.YtlglfdhiopnglaaGreatDoorPeT
namespace Go.Proofs.YtlglfdhiopnglaaGreatDoor
open Go.ChangeShapes Go.WideShapes Go.ChangeAt Go.RowKit
set_option linter.unusedVariables false
set_option linter.unusedSimpArgs false
set_option maxRecDepth 100000

theorem eqI_refl (x : Ins) : eqI x x = true := by simp [eqI]
instance decIns : DecidableEq Ins := fun x y => if h : eqI x y = true then isTrue (eqI_eq h) else isFalse (fun e => h (by rw [e]; exact eqI_refl y))

set_option maxHeartbeats 4000000 in
theorem run_neq_ins (x y : Ins) (w : World) : (binOp .neq 42 (.agg (insCs x)) (.agg (insCs y))).run Tryz.prog w = .ok (.bool (!eqI x y)) w := by
  obtain ⟨op, A, b, c, ⟨n1, d⟩, kd, bi, fr, ro, ov⟩ := x
  obtain ⟨op2, A2, b2, c2, ⟨n2, d2⟩, kd2, bi2, fr2, ro2, ov2⟩ := y
  unfold insCs
  dsimp only
  rw [run_neq_struct]
  go_simp
  unfold eqI
  (repeat' split) <;> simp_all
set_option maxHeartbeats 4000000 in
theorem law_same (av bv : Value) (la lb : List Ins) (w : World) (ha : InsAt w av la) (hb : InsAt w bv lb) (hlen : la.length ≤ 100000) (hlen2 : lb.length ≤ 100000) :
    Calls Tryz.prog 18 #[av, bv] w fun e w' => e = .returned (.bool (decide (la = lb))) ∧ Up w w' := by
  obtain ⟨r, hr⟩ : ∃ r, decide (la = lb) = r := ⟨_, rfl⟩
  rw [hr]
  have HA := Lib.hid ha
  have HB := Lib.hid hb
  obtain ⟨⟨aa, ac, rfl⟩, am⟩ := ha.slice
  obtain ⟨⟨ba, bc, rfl⟩, bm⟩ := hb.slice
  obtain ⟨n, hn⟩ : ∃ n, la.length = n := ⟨_, rfl⟩
  obtain ⟨m, hm⟩ : ∃ m, lb.length = m := ⟨_, rfl⟩
  rw [hn] at hlen ⊢
  rw [hm] at hlen2 ⊢
  have HN := Lib.hid hn
  have HM := Lib.hid hm
  have HR : Hid (decide (la.drop 0 = lb.drop 0) = r) := Lib.hid hr
  clear hn hm hr ha hb am bm
  go_enter Tryz.func18, Tryz.ntmps18
  by_cases hnm : n = m
  · subst hnm
    go_wp2
    go_loopw [5] (fun iv wr => ∃ k : Nat, k ≤ n ∧ iv = .int .i64 k ∧ decide (la.drop k = lb.drop k) = r ∧ Up w wr) (fun iv _ => n - (intOf iv).toNat)
    case atStart => exact ⟨0, by omega, rfl, HR.out, Up.refl _⟩
    case round =>
      rename World => wr
      obtain ⟨k, hk, rfl, hf, hU⟩ := hrel
      have HU := Lib.hid hU
      clear hU HR
      by_cases hlt : k < n
      · have hltI : (k : Int) < n := by omega
        obtain ⟨x, hx⟩ : ∃ y, la.getD k i0 = y := ⟨_, rfl⟩
        obtain ⟨y, hy⟩ : ∃ y, lb.getD k i0 = y := ⟨_, rfl⟩
        obtain ⟨bl, off, ha, hbl, ⟨k0, k1, k2, k3, k4, k5, k6, k7, k8, k9, k10⟩, -⟩ := HA.out.elem HU.out k (by rw [HN.out]; exact hlt) HN.out (by rw [HN.out]) hx
        obtain ⟨bm, ofm, hb, hbm, ⟨m0, m1, m2, m3, m4, m5, m6, m7, m8, m9, m10⟩, -⟩ := HB.out.elem HU.out k (by rw [HM.out]; exact hlt) HM.out (by rw [HM.out]) hy
        subst ha hb
        have hb1 : bl < wr.heap.size := Nat.lt_of_lt_of_le hbl HU.out.size
        have hb2 : bm < wr.heap.size := Nat.lt_of_lt_of_le hbm HU.out.size
        rw [drop_ins HN.out hlt hx, drop_ins HM.out hlt hy] at hf
        clear hx hy
        by_cases hxy : x = y
        · subst hxy
          have HF : Hid (decide (la.drop (k + 1) = lb.drop (k + 1)) = r) := Lib.hid (by rw [← hf]; simp)
          clear hf
          obtain ⟨op, A, b, c, ⟨n1, d⟩, kd, bi, fr, ro, ov⟩ := x
          dsimp only at k0 m0 k1 m1 k2 m2 k3 m3 k4 m4 k5 m5 k6 m6 k7 m7 k8 m8 k9 m9 k10 m10
          go_wp2
          refine wp_region_ext (by kernel_rfl) (by kernel_rfl) ?_
          repeat (go_big_quiet_step (fail))
          refine wpQuiet_nil ?_
          intro z hz
          replace HU := Lib.hid (HU.out.trans hz)
          clear hz
          go_wp2
          go_roundw
          case rel => exact ⟨k + 1, by omega, by go_num, HF.out, HU.out⟩
          case measure => simp [intOf]; omega
        · have HE : Hid (r = false) := Lib.hid (by rw [← hf]; simp [hxy])
          have HXY : Hid (eqI x y = false) := Lib.hid (by
            cases h : eqI x y with
            | false => rfl
            | true => exact absurd (eqI_eq h) hxy)
          have HQ : ∀ v, (binOp .neq 42 (.agg (insCs x)) (.agg (insCs y))).run Tryz.prog v = .ok (.bool true) v := fun v => by rw [run_neq_ins, HXY.out]; rfl
          unfold insCs at HQ
          clear hf hxy HXY
          obtain ⟨op, A, b, c, ⟨n1, d⟩, kd, bi, fr, ro, ov⟩ := x
          obtain ⟨op2, A2, b2, c2, ⟨n2, d2⟩, kd2, bi2, fr2, ro2, ov2⟩ := y
          dsimp only at k0 m0 k1 m1 k2 m2 k3 m3 k4 m4 k5 m5 k6 m6 k7 m7 k8 m8 k9 m9 k10 m10 HQ
          go_wp2
          refine wp_region_ext (by kernel_rfl) (by kernel_rfl) ?_
          repeat (go_big_quiet_step (fail))
          refine wpQuiet_nil ?_
          intro z hz
          replace HU := Lib.hid (HU.out.trans hz)
          clear hz
          go_wp2
          go_ret
          exact ⟨ret_bool HE.out.symm, HU.out⟩
      · obtain rfl : k = n := by omega
        have HE : Hid (r = true) := Lib.hid (by
          rw [← hf, List.drop_eq_nil_of_le (by rw [HN.out]; omega), List.drop_eq_nil_of_le (by rw [HM.out]; omega)]; rfl)
        go_wp2
        go_ret
        exact ⟨ret_bool HE.out.symm, HU.out⟩
  · have HE : Hid (r = false) := Lib.hid (by
      rw [← HR.out, List.drop_zero, List.drop_zero, decide_eq_false_iff_not]
      intro e
      exact hnm (by rw [← HN.out, ← HM.out, e]))
    have q1 : ((n : Int) == m) = false := by rw [beq_eq_false_iff_ne]; omega
    have q2 : ((n : Int) != m) = true := by rw [bne_iff_ne]; omega
    go_wp2
    go_ret
    exact ⟨ret_bool HE.out.symm, Up.refl _⟩
end Go.Proofs.YtlglfdhiopnglaaGreatDoor
