/-
  Mnemonic of isa; the law's examples. Printed by mkIsEx.py.
-/
import Derived.Test.YtlglfdhiopnglaaGreatDoorIsSm
namespace Go.Proofs.YtlglfdhiopnglaaGreatDoor
open Go.ChangeShapes Go.WideShapes Go.ChangeAt Go.RowKit
set_option linter.unusedVariables false
set_option linter.unusedSimpArgs false
set_option maxRecDepth 100000

/-- The word of an opcode, or nothing. -/
def mneS (op : Int) : ByteArray := if knownB op then mnS op.toNat else ⟨#[]⟩
set_option maxHeartbeats 4000000 in
theorem isa_Mnemonic (op : Int) (w : World) (hW : WTab w) : Calls Tryz.prog 14 #[.int .i64 op] w fun e w' => e = .returned (.string (mneS op)) ∧ Up w w' := by
  obtain ⟨r, hr⟩ : ∃ r, mneS op = r := ⟨_, rfl⟩
  rw [hr]
  obtain ⟨kn, hkn⟩ : ∃ kn, knownB op = kn := ⟨_, rfl⟩
  have HK := Lib.hid hkn
  have HR : Hid ((if kn = true then mnS op.toNat else ⟨#[]⟩) = r) := Lib.hid (by rw [← hr, mneS, hkn])
  cases kn
  · have HE : Hid (r = ⟨#[]⟩) := Lib.hid (by rw [← HR.out]; rfl)
    clear hkn hr HR
    go_enter Tryz.func14, Tryz.ntmps14
    go_wp2_with (go_at_call 36; refine (isa_known _ _ HK.out _).mono ?_; rintro e x ⟨rfl, rfl⟩)
    go_ret
    exact ⟨by rw [HE.out]; rfl, Up.refl _⟩
  · obtain ⟨o, rfl⟩ : ∃ o : Nat, op = o := ⟨op.toNat, by simp [knownB] at hkn; omega⟩
    have ho : o < 17 := by simp [knownB] at hkn; omega
    have hoI : (o : Int) < 17 := by omega
    have hc := hW.2 o ho
    have hg := hW.1
    have HE : Hid (r = mnS o) := Lib.hid (by rw [← HR.out, if_pos rfl, Int.toNat_natCast])
    clear hkn hr HR hW
    go_enter Tryz.func14, Tryz.ntmps14
    go_wp2_with (go_at_call 36; refine (isa_known _ _ HK.out _).mono ?_; rintro e x ⟨rfl, rfl⟩)
    go_ret
    exact ⟨by rw [HE.out]; rfl, Up.refl _⟩

def exL : List Ins := [(12, 1, 2, 3, (4, 1), 1, 0, 0, 0, 0), (10, 0, 4, 16, (8, 1), 0, 0, 0, 0, 0)]
def exB : List Ins := [(0, 0, 0, 0, (0, 0), 0, 0, 0, 0, 0), (7, 2, 0, 0, (0, 0), 0, 0, 0, 0, 0)]
def exT : List UInt8 := [111, 112, 32, 97, 100, 100, 32, 114, 49, 32, 114, 50, 32, 114, 51, 32, 102, 114, 97, 99, 10, 108, 111, 97, 100, 32, 114, 48, 32, 120, 52, 32, 56, 32, 49, 54, 10]
theorem exL_at (w : World) : InsAt (w.alloc (.cells #[.int .i64 12, .int .i64 1, .int .i64 2, .int .i64 3, .int .i64 4, .int .i64 1, .int .i64 1, .int .i64 0, .int .i64 0, .int .i64 0, .int .i64 0, .int .i64 10, .int .i64 0, .int .i64 4, .int .i64 16, .int .i64 8, .int .i64 1, .int .i64 0, .int .i64 0, .int .i64 0, .int .i64 0, .int .i64 0] 42)) (.slice (some ⟨w.heap.size, 0, none⟩) 2 2) exL := by
  refine ⟨SlAt.lay w _ _ 2 11 _ (by decide) fun i j hi hj => ?_, fun x hx => ?_⟩
  · have key : ∀ i, i < 2 → ∀ j, j < 11 → (#[.int .i64 12, .int .i64 1, .int .i64 2, .int .i64 3, .int .i64 4, .int .i64 1, .int .i64 1, .int .i64 0, .int .i64 0, .int .i64 0, .int .i64 0, .int .i64 10, .int .i64 0, .int .i64 4, .int .i64 16, .int .i64 8, .int .i64 1, .int .i64 0, .int .i64 0, .int .i64 0, .int .i64 0, .int .i64 0] : Array Value)[i * 11 + j]? = some (insF exL i j) := by
      intro i hi j hj
      rcases (by omega : i = 0 ∨ i = 1) with rfl | rfl <;> rcases (by omega : j = 0 ∨ j = 1 ∨ j = 2 ∨ j = 3 ∨ j = 4 ∨ j = 5 ∨ j = 6 ∨ j = 7 ∨ j = 8 ∨ j = 9 ∨ j = 10) with rfl | rfl | rfl | rfl | rfl | rfl | rfl | rfl | rfl | rfl | rfl <;> rfl
    exact key i hi j hj
  · unfold exL at hx
    rcases List.mem_cons.1 hx with rfl | hx
    · exact InR.mk ⟨by decide, by decide⟩ ⟨by decide, by decide⟩ ⟨by decide, by decide⟩ ⟨by decide, by decide⟩ ⟨by decide, by decide⟩ ⟨by decide, by decide⟩ (fun j => by unfold typC; split <;> exact ⟨by decide, by decide⟩)
    · obtain rfl := List.mem_singleton.1 hx
      exact InR.mk ⟨by decide, by decide⟩ ⟨by decide, by decide⟩ ⟨by decide, by decide⟩ ⟨by decide, by decide⟩ ⟨by decide, by decide⟩ ⟨by decide, by decide⟩ (fun j => by unfold typC; split <;> exact ⟨by decide, by decide⟩)
theorem exB_at (w : World) : InsAt (w.alloc (.cells #[.int .i64 0, .int .i64 0, .int .i64 0, .int .i64 0, .int .i64 0, .int .i64 0, .int .i64 0, .int .i64 0, .int .i64 0, .int .i64 0, .int .i64 0, .int .i64 7, .int .i64 2, .int .i64 0, .int .i64 0, .int .i64 0, .int .i64 0, .int .i64 0, .int .i64 0, .int .i64 0, .int .i64 0, .int .i64 0] 42)) (.slice (some ⟨w.heap.size, 0, none⟩) 2 2) exB := by
  refine ⟨SlAt.lay w _ _ 2 11 _ (by decide) fun i j hi hj => ?_, fun x hx => ?_⟩
  · have key : ∀ i, i < 2 → ∀ j, j < 11 → (#[.int .i64 0, .int .i64 0, .int .i64 0, .int .i64 0, .int .i64 0, .int .i64 0, .int .i64 0, .int .i64 0, .int .i64 0, .int .i64 0, .int .i64 0, .int .i64 7, .int .i64 2, .int .i64 0, .int .i64 0, .int .i64 0, .int .i64 0, .int .i64 0, .int .i64 0, .int .i64 0, .int .i64 0, .int .i64 0] : Array Value)[i * 11 + j]? = some (insF exB i j) := by
      intro i hi j hj
      rcases (by omega : i = 0 ∨ i = 1) with rfl | rfl <;> rcases (by omega : j = 0 ∨ j = 1 ∨ j = 2 ∨ j = 3 ∨ j = 4 ∨ j = 5 ∨ j = 6 ∨ j = 7 ∨ j = 8 ∨ j = 9 ∨ j = 10) with rfl | rfl | rfl | rfl | rfl | rfl | rfl | rfl | rfl | rfl | rfl <;> rfl
    exact key i hi j hj
  · unfold exB at hx
    rcases List.mem_cons.1 hx with rfl | hx
    · exact InR.mk ⟨by decide, by decide⟩ ⟨by decide, by decide⟩ ⟨by decide, by decide⟩ ⟨by decide, by decide⟩ ⟨by decide, by decide⟩ ⟨by decide, by decide⟩ (fun j => by unfold typC; split <;> exact ⟨by decide, by decide⟩)
    · obtain rfl := List.mem_singleton.1 hx
      exact InR.mk ⟨by decide, by decide⟩ ⟨by decide, by decide⟩ ⟨by decide, by decide⟩ ⟨by decide, by decide⟩ ⟨by decide, by decide⟩ ⟨by decide, by decide⟩ (fun j => by unfold typC; split <;> exact ⟨by decide, by decide⟩)

theorem dec_small : Lib.itoa 0 = [48] ∧ Lib.itoa 1 = [49] ∧ Lib.itoa 2 = [50] ∧ Lib.itoa 3 = [51] ∧ Lib.itoa 4 = [52] ∧ Lib.itoa 8 = [56] ∧ Lib.itoa 16 = [49, 54] := by
  refine ⟨?_, ?_, ?_, ?_, ?_, ?_, ?_⟩
  all_goals
    unfold Lib.itoa
    rw [if_neg (by decide)]
  · exact Lib.decDigits_one (i := 0) (by decide)
  · exact Lib.decDigits_one (i := 1) (by decide)
  · exact Lib.decDigits_one (i := 2) (by decide)
  · exact Lib.decDigits_one (i := 3) (by decide)
  · exact Lib.decDigits_one (i := 4) (by decide)
  · exact Lib.decDigits_one (i := 8) (by decide)
  · exact Lib.decDigits_two (i := 16) (by decide) (by decide)
theorem exL_wf : exL.all wfB = true := by decide +kernel
theorem exL_text : formatL exL = exT := by
  obtain ⟨i0, i1, i2, i3, i4, i8, i16⟩ := dec_small
  unfold formatL
  rw [if_pos exL_wf]
  show (Lib.join [[111, 112], opnL 4, 114 :: Lib.itoa 1, 114 :: Lib.itoa 2, 114 :: Lib.itoa 3, [102, 114, 97, 99]] [32] ++ [10]) ++ ((Lib.join [[108, 111, 97, 100], 114 :: Lib.itoa 0, 120 :: Lib.itoa 4, Lib.itoa 8, Lib.itoa 16] [32] ++ [10]) ++ []) = _
  rw [i0, i1, i2, i3, i4, i8, i16]
  decide +kernel
theorem exL_parse : parseP (bst exT) = (exL, 0, 0) := by
  rw [parseP_eq, bst_list, ← exL_text]
  exact parse_format exL_wf (by decide)
theorem exB_bad : validateF exB [] 0 = (1, 25) := by decide +kernel
theorem ex_halt : parseP (bst [104, 97, 108, 116]) = ([], 0, 6) := by
  rw [parseP_eq, bst_list]; rfl

set_option maxHeartbeats 4000000 in
theorem law_examples (w : World) (hR : RdW w) (hF : FTab w) (hI : ITab w) (hW : WTab w) :
    Calls Tryz.prog 9 #[] w fun e w' => e = .returned (.bool true) ∧ Up w w' := by
  have HP1 := Lib.hid (fun v (hv : Up w v) => isa_Parse (bst exT) (by decide +kernel) v (hR.up hv) (hF.up hv) (hI.up hv) (hW.up hv))
  have HP2 := Lib.hid (fun v (hv : Up w v) => isa_Parse (bst [104, 97, 108, 116]) (by decide +kernel) v (hR.up hv) (hF.up hv) (hI.up hv) (hW.up hv))
  rw [exL_parse] at HP1
  rw [ex_halt] at HP2
  have HV := Lib.hid (fun v a (hv : Up w v) (ha : InsAt v a exB) => isa_Validate a (.slice none 0 0) exB [] 0 v ha ⟨SlAt.nil _ _ _, fun x h => by cases h⟩ (hI.up hv) (by decide) (by decide))
  rw [exB_bad] at HV
  have HFM := Lib.hid (fun v a (hv : Up w v) (ha : InsAt v a exL) => isa_Format a exL v ha (by decide) (hF.up hv) (hI.up hv) (hW.up hv))
  rw [exL_text, show bst exT = ⟨#[111, 112, 32, 97, 100, 100, 32, 114, 49, 32, 114, 50, 32, 114, 51, 32, 102, 114, 97, 99, 10, 108, 111, 97, 100, 32, 114, 48, 32, 120, 52, 32, 56, 32, 49, 54, 10]⟩ from rfl] at HFM
  have HSM := Lib.hid (fun v a b (ha : InsAt v a exL) (hb : InsAt v b exL) => law_same a b exL exL v ha hb (by decide) (by decide))
  have HMN := Lib.hid (fun v (hv : Up w v) => isa_Mnemonic 8 v (hW.up hv))
  rw [show mneS 8 = ⟨#[106, 108, 116]⟩ from rfl] at HMN
  have HU1 : Hid (Up w ((w.alloc (.cells #[.int .i64 1, .int .i64 0, .int .i64 0, .int .i64 0, .int .i64 0] 40)).alloc (.cells #[.int .i64 12, .int .i64 1, .int .i64 2, .int .i64 3, .int .i64 4, .int .i64 1, .int .i64 1, .int .i64 0, .int .i64 0, .int .i64 0, .int .i64 0, .int .i64 10, .int .i64 0, .int .i64 4, .int .i64 16, .int .i64 8, .int .i64 1, .int .i64 0, .int .i64 0, .int .i64 0, .int .i64 0, .int .i64 0] 42))) := Lib.hid (((Up.refl w).alloc _).alloc _)
  have HL1 : Hid (InsAt ((w.alloc (.cells #[.int .i64 1, .int .i64 0, .int .i64 0, .int .i64 0, .int .i64 0] 40)).alloc (.cells #[.int .i64 12, .int .i64 1, .int .i64 2, .int .i64 3, .int .i64 4, .int .i64 1, .int .i64 1, .int .i64 0, .int .i64 0, .int .i64 0, .int .i64 0, .int .i64 10, .int .i64 0, .int .i64 4, .int .i64 16, .int .i64 8, .int .i64 1, .int .i64 0, .int .i64 0, .int .i64 0, .int .i64 0, .int .i64 0] 42)) (.slice (some ⟨w.heap.size + 1, 0, none⟩) 2 2) exL) := Lib.hid (by
    have := exL_at (w.alloc (.cells #[.int .i64 1, .int .i64 0, .int .i64 0, .int .i64 0, .int .i64 0] 40))
    simpa using this)
  have hsz : (w.alloc (.cells #[.int .i64 1, .int .i64 0, .int .i64 0, .int .i64 0, .int .i64 0] 40)).heap.size = w.heap.size + 1 := by simp
  clear hR hF hI hW
  go_enter Tryz.func9, Tryz.ntmps9
  go_upto_region 5 with (go_at_call 16; refine (HP1.out _ HU1.out).mono ?_; rintro e x ⟨pv, rfl, hx, hp⟩; have HX := Lib.hid hx; have HPV := Lib.hid hp; clear hx hp)
  have HUX := Lib.hid (HU1.out.trans HX.out)
  have HLX := Lib.hid (HL1.out.up HX.out)
  have HLB := Lib.hid (exB_at x)
  have HUB := Lib.hid (HUX.out.alloc (.cells #[.int .i64 0, .int .i64 0, .int .i64 0, .int .i64 0, .int .i64 0, .int .i64 0, .int .i64 0, .int .i64 0, .int .i64 0, .int .i64 0, .int .i64 0, .int .i64 7, .int .i64 2, .int .i64 0, .int .i64 0, .int .i64 0, .int .i64 0, .int .i64 0, .int .i64 0, .int .i64 0, .int .i64 0, .int .i64 0] 42))
  clear hsz HU1 HL1
  go_upto_region 7 with (first
    | (go_at_call 10; refine (HV.out _ _ HUB.out HLB.out).mono ?_; rintro e y ⟨rfl, hy⟩; have HUY := Lib.hid (HUB.out.trans hy); have HXY := Lib.hid (((Up.refl x).alloc _).trans hy); clear hy)
    | (go_at_call 16; refine (HP2.out _ HUY.out).mono ?_; rintro e z ⟨pz, rfl, hz, -⟩; have HUZ := Lib.hid (HUY.out.trans hz); have HXZ := Lib.hid (HXY.out.trans hz); clear hz))
  go_wp2_with (first
    | (go_at_call 14; refine (HMN.out _ HU3.out).mono ?_; rintro e v3 ⟨rfl, hv⟩; have HU4 := Lib.hid (HU3.out.trans hv); clear hv)
    | (go_at_call 18; refine (HSM.out _ _ _ (HLX.out.up HX2.out) (HPV.out.up HX2.out)).mono ?_; rintro e v2 ⟨rfl, hv⟩; have HU3 := Lib.hid (HU2.out.trans hv); clear hv)
    | (go_at_call 12; refine (HFM.out _ _ HUZ.out (HLX.out.up HXZ.out)).mono ?_; rintro e v1 ⟨rfl, hv⟩; have HU2 := Lib.hid (HUZ.out.trans hv); have HX2 := Lib.hid (HXZ.out.trans hv); clear hv))
  go_ret
  exact ⟨rfl, HU4.out⟩
end Go.Proofs.YtlglfdhiopnglaaGreatDoor
