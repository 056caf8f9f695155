/-
  ConstraintEval: the walk of the law.
-/
import Derived.Test.YtahlecmlhdikjaaDoorGe
import Derived.Test.YtahlecmlhdikjaaDoorCoX
import Derived.Test.YtahlecmlhdikjaaDoorGi
import Derived.Test.YtahlecmlhdikjaaDoorCoR
namespace Go.Proofs.YtahlecmlhdikjaaDoor.constraintEval
open Go.ChangeShapes Go.WideShapes Go.ChangeAt Go.RowKit
set_option linter.unusedVariables false
set_option linter.unusedSimpArgs false

set_option maxHeartbeats 8000000 in
set_option maxRecDepth 100000 in
theorem walk (W : World) {v v' : Value} {cs : List Con} {env : List Mono} (w0 : ConsAt W v cs) (w1 : MonosArg W v' env) :
    Calls Tryd.prog 12 #[v, v'] W fun e w' => e = .returned (.bool true) ∧ Up W w' := by
  obtain ⟨he, hen, -, -⟩ := w1
  have HV := Lib.hid w0
  have HE := Lib.hid he
  obtain ⟨⟨a, cap, rfl⟩, hmax⟩ := w0.slice
  obtain ⟨a', cap', rfl⟩ := he.slice
  obtain ⟨n, hn⟩ : ∃ n, cs.length = n := ⟨_, rfl⟩
  obtain ⟨n', hn'⟩ : ∃ n', env.length = n' := ⟨_, rfl⟩
  rw [hn'] at HE ⊢
  rw [hn] at hmax ⊢
  replace HV : Hid (ConsAt W (.slice a n cap) cs) := Lib.hid (by rw [← hn]; exact w0)
  have HN := Lib.hid hn
  obtain ⟨q, hq⟩ : ∃ q, smallC cs 60 = q := ⟨_, rfl⟩
  have HSM : Hid (∀ x, ConsAt x (.slice a n cap) cs → Calls Tryd.prog 13 #[.slice a n cap, .int .i64 60] x fun e w' => e = .returned (.bool q) ∧ Up x w') := Lib.hid fun x hx => by
    rw [← hq]; exact law_Small _ _ 60 _ hx (by omega)
  have HLEN : Hid (q = true → ∀ c ∈ cs, c.2.1.length ≤ 1000) := Lib.hid fun h c hc => by
    rw [h] at hq
    unfold smallC smallK at hq
    simp only [Bool.and_eq_true, decide_eq_true_eq, List.all_eq_true] at hq
    have := (hq.2 c hc).1
    omega
  have HEX : Hid (∀ x, Calls Tryd.prog 14 #[] x fun e w' => e = .returned (.bool true) ∧ Up x w') := Lib.hid law_examples
  have HEN := Lib.hid hen
  obtain ⟨r, hr⟩ : ∃ r, firstF env cs 0 = r := ⟨_, rfl⟩
  have HF1 : Hid ((∀ c ∈ cs, c.2.1.length ≤ 1000) → ∀ x, ConsAt x (.slice a n cap) cs → MonosAt x (.slice a' n' cap') env → Calls Tryd.prog 33 #[.slice a n cap, .slice a' n' cap'] x fun e w' => e = .returned (.tuple #[.int .i64 r.1, .int .i64 r.2]) ∧ Up x w') := Lib.hid fun hl x h h' => hr ▸ con_FirstViolated _ _ cs env x h h' hen hl
  have HF2 : Hid ((∀ c ∈ cs, c.2.1.length ≤ 1000) → ∀ x, ConsAt x (.slice a n cap) cs → MonosAt x (.slice a' n' cap') env → Calls Tryd.prog 25 #[.slice a n cap, .slice a' n' cap'] x fun e w' => e = .returned (.tuple #[.int .i64 r.1, .int .i64 r.2]) ∧ Up x w') := Lib.hid fun hl x h h' => hr ▸ r06_FirstViolated _ _ cs env x h h' hen hl
  obtain ⟨r1, r2⟩ := r
  have early : ∀ {x : World}, Hid (Up W x) → Calls Tryd.prog 14 #[] x fun e w' => e = .returned (.bool true) ∧ Up W w' := fun hU => (HEX.out _).mono fun e w' h => ⟨h.1, hU.out.trans h.2⟩
  clear hn hn' hr hq he hen w0
  go_enter Tryd.func12, Tryd.ntmps12
  go_wp2_with fail
  refine (HSM.out _ HV.out).mono ?_
  rintro e x1 ⟨rfl, hx1⟩
  have HU1 := Lib.hid hx1
  clear hx1
  cases q
  · go_wp2_with fail
    refine (early HU1).mono ?_
    rintro e x2 ⟨rfl, hx2⟩
    go_wp2
    go_ret
    exact ⟨rfl, hx2⟩
  have HL := Lib.hid (HLEN.out rfl)
  by_cases hbig : 100 < n'
  · have hbI : (100 : Int) < n' := by omega
    go_wp2_with fail
    refine (early HU1).mono ?_
    rintro e x2 ⟨rfl, hx2⟩
    go_wp2
    go_ret
    exact ⟨rfl, hx2⟩
  have hbI : ¬ (100 : Int) < n' := by omega
  have hmI : (n : Int) ≤ 9223372036854775807 := by omega
  clear hbig
  go_wp2
  go_loopw [5] (fun iv wr => ∃ (i : Nat), i ≤ n ∧ iv = .int .i64 i ∧ Up W wr) (fun iv _ => n - (intOf iv).toNat)
  case atStart => exact ⟨0, by omega, rfl, HU1.out⟩
  case round =>
    rename World => wr
    obtain ⟨i, hi, rfl, hU⟩ := hrel
    have HU := Lib.hid hU
    clear hU
    by_cases hlt : i < n
    · have hltI : (i : Int) < n := by omega
      obtain ⟨bl, off, lv, K, l, b, ha, hbl, hg, k0, k1, k2, hp, hKr⟩ := HV.out.elem HU.out i (by rw [HN.out]; exact hlt) HN.out rfl
      subst ha
      have hd : cs.drop i = (K, l, b) :: cs.drop (i + 1) := by
        have := List.drop_eq_getElem_cons (l := cs) (i := i) (by rw [HN.out]; exact hlt)
        rw [this]
        congr 1
        rw [List.getD_eq_getElem?_getD, List.getElem?_eq_getElem (by rw [HN.out]; exact hlt)] at hg
        exact hg
      have hm : (K, l, b) ∈ cs := List.mem_of_mem_drop (i := i) (by rw [hd]; exact List.mem_cons_self)
      have hl1 := HL.out _ hm
      have hbl' : bl < wr.heap.size := Nat.lt_of_lt_of_le hbl HU.out.size
      obtain ⟨s, hs⟩ : ∃ q, holdsF (K, l, b) env = q := ⟨_, rfl⟩
      obtain ⟨g, hgg⟩ : ∃ g, errOf (okL l) = g := ⟨_, rfl⟩
      have HP := Lib.hid hp
      obtain ⟨al, capl, rfl⟩ := hp.1.slice
      obtain ⟨nl, hnl⟩ : ∃ n, l.length = n := ⟨_, rfl⟩
      rw [hnl] at HP k1
      have HH : Hid (∀ w, MonosAt w (.slice al nl capl) l → MonosAt w (.slice a' n' cap') env → Calls Tryd.prog 31 #[.agg #[.int .i64 K, .slice al nl capl, .bool b], .slice a' n' cap'] w (HoldsR w s)) := Lib.hid fun w h h' => by
        rw [← hs]; exact con_Holds K _ _ l env b w h h' hKr hp.2.1 HEN.out hl1
      have HR : Hid (∀ w, MonosAt w (.slice al nl capl) l → MonosAt w (.slice a' n' cap') env → Calls Tryd.prog 19 #[.agg #[.int .i64 K, .slice al nl capl, .bool b], .slice a' n' cap'] w (HoldsR w s)) := Lib.hid fun w h h' => by
        rw [← hs]; exact r06_Holds K _ _ l env b w h h' hKr hp.2.1 HEN.out hl1
      have HVA : Hid (∀ w, MonosAt w (.slice al nl capl) l → Calls Tryd.prog 18 #[.agg #[.int .i64 K, .slice al nl capl, .bool b]] w fun e w' => e = .returned (.int .i64 g) ∧ Up w w') := Lib.hid fun w h => by
        rw [← hgg]; exact con_Validate K _ l b w h
      have HVB : Hid (∀ w, MonosAt w (.slice al nl capl) l → Calls Tryd.prog 32 #[.agg #[.int .i64 K, .slice al nl capl, .bool b]] w fun e w' => e = .returned (.int .i64 g) ∧ Up w w') := Lib.hid fun w h => by
        rw [← hgg]; exact r06_Validate K _ l b w h
      obtain ⟨s1, s2⟩ := s
      clear hd hm hg hp hs hgg hnl hl1 hKr hbl
      go_wp2_with fail
      refine (HH.out _ HP.out.1 (HE.out.up HU.out)).mono ?_
      rintro e x2 ⟨rfl, hx2⟩
      have k0' := (hx2.cell _ _ hbl').trans k0
      have k1' := (hx2.cell _ _ hbl').trans k1
      have k2' := (hx2.cell _ _ hbl').trans k2
      have hbl2 := Nat.lt_of_lt_of_le hbl' hx2.size
      have HP2 := Lib.hid (HP.out.up hx2)
      have HU2 := Lib.hid (HU.out.trans hx2)
      clear hx2 HH HU HP k0 k1 k2 hbl'
      go_wp2_with fail
      refine (HR.out _ HP2.out.1 (HE.out.up HU2.out)).mono ?_
      rintro e x3 ⟨rfl, hx3⟩
      have k0 := (hx3.cell _ _ hbl2).trans k0'
      have k1 := (hx3.cell _ _ hbl2).trans k1'
      have k2 := (hx3.cell _ _ hbl2).trans k2'
      have hbl3 := Nat.lt_of_lt_of_le hbl2 hx3.size
      have HP3 := Lib.hid (HP2.out.up hx3)
      have HU3 := Lib.hid (HU2.out.trans hx3)
      clear hx3 HR HU2 HP2 k0' k1' k2' hbl2
      have HVA2 : Hid (∀ x : Ext x3, Calls Tryd.prog 18 #[.agg #[.int .i64 K, .slice al nl capl, .bool b]] x.w fun e w' => e = .returned (.int .i64 g) ∧ Up x.w w') := Lib.hid fun x => HVA.out _ (HP3.out.1.up x.up)
      have HVB2 : Hid (∀ x : Ext x3, Calls Tryd.prog 32 #[.agg #[.int .i64 K, .slice al nl capl, .bool b]] x.w fun e w' => e = .returned (.int .i64 g) ∧ Up x.w w') := Lib.hid fun x => HVB.out _ (HP3.out.1.up x.up)
      clear HVA HVB
      go_wp2_with fail
      refine wp_region_ext (by kernel_rfl) (by kernel_rfl) ?_
      repeat (go_big_quiet_step (first | (go_at_call 18; exact Calls.ext_of (HVA2.out _)) | (go_at_call 32; exact Calls.ext_of (HVB2.out _))))
      refine wpQuiet_nil ?_
      intro x hx
      go_wp2
      go_roundw
      case rel => exact ⟨i + 1, by omega, by go_num, HU3.out.trans hx⟩
      case measure => simp [intOf]; omega
    · obtain rfl : i = n := by omega
      go_wp2_with fail
      refine (HF1.out HL.out _ (HV.out.up HU.out) (HE.out.up HU.out)).mono ?_
      rintro e x2 ⟨rfl, hx2⟩
      have HU2 := Lib.hid (HU.out.trans hx2)
      clear hx2 HU
      go_wp2_with fail
      refine (HF2.out HL.out _ (HV.out.up HU2.out) (HE.out.up HU2.out)).mono ?_
      rintro e x3 ⟨rfl, hx3⟩
      have HU3 := Lib.hid (HU2.out.trans hx3)
      clear hx3 HU2
      go_wp2_with fail
      refine (early HU3).mono ?_
      rintro e x4 ⟨rfl, hx4⟩
      go_wp2
      go_ret
      exact ⟨rfl, hx4⟩
end Go.Proofs.YtahlecmlhdikjaaDoor.constraintEval
