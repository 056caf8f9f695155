/-
  LinQueries: the walk of the law.
-/
import Derived.Test.YtpclbgaaoednnaaLinQg
import Derived.Test.YtpclbgaaoednnaaLinOl
namespace Go.Proofs.Ytpclbgaaoednnaa.linQueries
open Go.ChangeShapes Go.WideShapes Go.ChangeAt Go.RowKit
set_option linter.unusedVariables false

set_option maxHeartbeats 8000000 in
theorem walk (W : World) {v : Value} {ls : List (Int × List Mono)} {s : ByteArray} (w0 : LinsArg W v ls) (ws : s.size ≤ maxLen) :
    Calls Try.prog 11 #[v, .string s] W fun e w' => e = .returned (.bool true) ∧ Up W w' := by
  obtain ⟨hv, hrg⟩ := w0
  obtain ⟨⟨a, cap, rfl⟩, hmax⟩ := hv.slice
  obtain ⟨n, hn⟩ : ∃ n, ls.length = n := ⟨_, rfl⟩
  rw [hn] at hv hmax ⊢
  have HV := Lib.hid hv
  have HN := Lib.hid hn
  have HRG := Lib.hid hrg
  clear hv hn hrg ws
  by_cases h6 : 6 < n
  · have h6I : (6 : Int) < (n : Int) := by omega
    go_enter Try.func11, Try.ntmps11
    go_wp2_with fail
    refine (law05_alive _).mono ?_
    rintro e x2 ⟨rfl, hx2⟩
    go_wp2
    go_ret
    exact ⟨rfl, hx2⟩
  have h6I : (n : Int) ≤ 6 := by omega
  go_enter Try.func11, Try.ntmps11
  go_wp2
  go_loopw [5] (fun i wr => ∃ k : Nat, k ≤ n ∧ i = .int .i64 k ∧ (∀ x ∈ ls.take k, smallB x.2 = true) ∧ Up W wr) (fun i _ => n - (intOf i).toNat)
  case atStart => exact ⟨0, by omega, rfl, (fun x hx => absurd hx (by simp)), Up.refl _⟩
  case round =>
    rename_i wr
    obtain ⟨k, hk, rfl, hP, hU⟩ := hrel
    have HP := Lib.hid hP
    clear hP
    by_cases hlt : k < n
    · have hlt2 : (k : Int) < (n : Int) := by omega
      have hk0 : (0 : Int) ≤ (k : Int) := by omega
      obtain ⟨bl, off, lv, K, l, rfl, p1, p2, p3, p4, p5⟩ := HV.out.elem (Up.refl W) k (by rw [HN.out]; exact hlt) HN.out rfl
      have hm : (K, l) ∈ ls := by
        rw [← p2, List.getD_eq_getElem?_getD, List.getElem?_eq_getElem (by rw [HN.out]; exact hlt)]; exact List.getElem_mem _
      have hr := HRG.out _ hm
      dsimp only at hr
      have htk := take_snoc2 (by rw [HN.out]; exact hlt) p2
      have HT := Lib.hid htk
      have HL := Lib.hid p5
      obtain ⟨q, hq⟩ : ∃ q, smallB l = q := ⟨_, rfl⟩
      obtain ⟨al, cl, rfl⟩ := p5.slice
      have HSM : Hid (∀ w, Up W w → Calls Try.prog 18 #[.agg #[.int .i64 K, .slice al l.length cl]] w fun e w' => e = .returned (.bool q) ∧ Up w w') := Lib.hid fun w h => by
        have := r05_Small K _ l w (HL.out.up h)
        rw [hq] at this; exact this
      obtain ⟨cv, hcv⟩ : ∃ c, coefF s.toList l = c := ⟨_, rfl⟩
      obtain ⟨gv, hgv⟩ : ∃ g, wrap64 (gcdFrom l 0) = g := ⟨_, rfl⟩
      have HC1 : Hid (∀ w, Up W w → Calls Try.prog 34 #[.agg #[.int .i64 K, .slice al l.length cl], .string s] w fun e w' => e = .returned (.int .i64 cv) ∧ Up w w') := Lib.hid fun w h => by
        have := lin_Coeff K s _ l w (HL.out.up h)
        rw [hcv] at this; exact this
      have HC2 : Hid (∀ w, Up W w → Calls Try.prog 35 #[.agg #[.int .i64 K, .slice al l.length cl], .string s] w fun e w' => e = .returned (.int .i64 cv) ∧ Up w w') := Lib.hid fun w h => by
        have := r05_Coeff K s _ l w (HL.out.up h)
        rw [hcv] at this; exact this
      have HG1 : Hid (∀ w, Up W w → Calls Try.prog 36 #[.agg #[.int .i64 K, .slice al l.length cl]] w fun e w' => e = .returned (.int .i64 gv) ∧ Up w w') := Lib.hid fun w h => by
        have := lin_Gcd K _ l w (HL.out.up h) hr
        rw [hgv] at this; exact this
      have HG2 : Hid (∀ w, Up W w → Calls Try.prog 37 #[.agg #[.int .i64 K, .slice al l.length cl]] w fun e w' => e = .returned (.int .i64 gv) ∧ Up w w') := Lib.hid fun w h => by
        have := r05_Gcd K _ l w (HL.out.up h) hr
        rw [hgv] at this; exact this
      obtain ⟨m, hmm⟩ : ∃ m, l.length = m := ⟨_, rfl⟩
      rw [hmm] at p4 HSM HC1 HC2 HG1 HG2
      have c0 := (hU.cell _ _ p1).trans p3
      have c1 := (hU.cell _ _ p1).trans p4
      have hbl : bl < wr.heap.size := by have := hU.size; omega
      have HU := Lib.hid hU
      have HQ := Lib.hid hq
      clear p2 hm hr htk p5 hcv hgv hmm hq hU
      go_wp2_with fail
      refine (HSM.out _ HU.out).mono ?_
      rintro e x1 ⟨rfl, hx1⟩
      cases q
      · go_wp2_with fail
        refine (law05_alive _).mono ?_
        rintro e x2 ⟨rfl, hx2⟩
        go_wp2
        go_ret
        exact ⟨rfl, (HU.out.trans hx1).trans hx2⟩
      · have HU1 := Lib.hid (HU.out.trans hx1)
        have c0 := (hx1.cell _ _ hbl).trans c0
        have c1 := (hx1.cell _ _ hbl).trans c1
        have hbl1 : bl < x1.heap.size := by have := hx1.size; omega
        have HP2 : Hid (∀ x ∈ ls.take (k + 1), smallB x.2 = true) := Lib.hid (by
          rw [HT.out]
          intro x hx
          rcases List.mem_append.1 hx with hx | hx
          · exact HP.out x hx
          · rw [List.mem_singleton.1 hx]; exact HQ.out)
        clear hx1
        go_wp2_with fail
        refine wp_region_ext (by kernel_rfl) (by kernel_rfl) ?_
        repeat (go_big_quiet_step (first | (go_at_call 34; exact Calls.ext_of (HC1.out _ (HU1.out.trans (Ext.up _)))) | (go_at_call 35; exact Calls.ext_of (HC2.out _ (HU1.out.trans (Ext.up _)))) | (go_at_call 36; exact Calls.ext_of (HG1.out _ (HU1.out.trans (Ext.up _)))) | (go_at_call 37; exact Calls.ext_of (HG2.out _ (HU1.out.trans (Ext.up _))))))
        refine wpQuiet_nil ?_
        intro x2 hx2
        go_wp2
        go_roundw
        case rel => exact ⟨k + 1, by omega, by go_num, HP2.out, HU1.out.trans hx2⟩
        case measure => simp [intOf]; omega
    · have hlt2 : (n : Int) ≤ (k : Int) := by omega
      have HLL : Hid (∀ x ∈ ls, x.2.length ≤ 1000) := Lib.hid (fun x hx => by
        have h := HP.out x (by rw [List.take_of_length_le (by rw [HN.out]; omega)]; exact hx)
        unfold smallB at h
        have := of_decide_eq_true (Bool.and_eq_true_iff.1 h).1
        omega)
      have HU := Lib.hid hU
      clear hU
      go_wp2_with fail
      refine (lin_Names _ ls wr (HV.out.up HU.out) (by rw [HN.out]; omega) HLL.out).mono ?_
      rintro e x1 ⟨v1, rfl, h1, hx1⟩
      rw [sortN_names] at h1
      have HA := Lib.hid h1
      have HU1 := Lib.hid (HU.out.trans hx1)
      clear h1 hx1
      go_wp2_with fail
      refine (r05_Names _ ls x1 (HV.out.up HU1.out) (by rw [HN.out]; omega) HLL.out).mono ?_
      rintro e x2 ⟨v2, rfl, h2, hx2⟩
      have hm2 := own_max h2
      have HB2 : Hid (StrsAt x2 v2 (namesF (ls.map (·.2)))) := Lib.hid (SlAt.own_strs h2 rfl hm2)
      have HA2 : Hid (StrsAt x2 v1 (namesF (ls.map (·.2)))) := Lib.hid (SlAt.up HA.out hx2)
      have HU2 := Lib.hid (HU1.out.trans hx2)
      clear h2 hx2 hm2
      go_wp2_with fail
      refine (base_Strings _ _ _ _ x2 HA2.out HB2.out).mono ?_
      rintro e x3 ⟨rfl, hx3⟩
      rw [show eqS (namesF (ls.map (·.2))) (namesF (ls.map (·.2))) = true from by simp [eqS]]
      have HU3 := Lib.hid (HU2.out.trans hx3)
      clear hx3
      go_wp2_with fail
      refine (law05_alive _).mono ?_
      rintro e x5 ⟨rfl, hx5⟩
      go_wp2
      go_ret
      exact ⟨rfl, HU3.out.trans hx5⟩
end Go.Proofs.Ytpclbgaaoednnaa.linQueries
