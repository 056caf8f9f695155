/-
  IsaRoundTrip: the walk of the law.
-/
import Derived.Test.YtlglfdhiopnglaaGreatDoorIsEx
import Derived.Test.YtlglfdhiopnglaaGreatDoorPeOi
namespace Go.Proofs.YtlglfdhiopnglaaGreatDoor.isaRoundTrip
open Go.ChangeShapes Go.WideShapes Go.ChangeAt Go.RowKit
set_option linter.unusedVariables false
set_option linter.unusedSimpArgs false
set_option maxRecDepth 100000

theorem textL_len : ∀ l : List Ins, (∀ x ∈ l, InR x) → (textL l).length ≤ l.length * 1000
  | [], _ => by simp [textL]
  | x :: r, h => by
    have ih := textL_len r (fun y hy => h y (List.mem_cons_of_mem _ hy))
    have hx := lineL_len (h x List.mem_cons_self)
    show (textL (x :: r)).length ≤ _
    unfold textL at ih ⊢
    rw [List.flatMap_cons, List.length_append, List.length_append, List.length_cons]
    simp only [List.length_cons, List.length_nil]
    omega
theorem formatL_len {l : List Ins} (h : ∀ x ∈ l, InR x) (hl : l.length ≤ 200) : (bst (formatL l)).size ≤ 1000000 := by
  have : (formatL l).length ≤ 1000000 := by
    unfold formatL
    split
    · have := textL_len l h; omega
    · simp
  rw [Lib.size_eq]; exact this

theorem take_all {l : List Ins} {k n : Nat} {x : Ins} (hn : l.length = n) (hk : k < n) (hx : l.getD k i0 = x) : (l.take (k + 1)).all formB = ((l.take k).all formB && formB x) := by
  subst hn
  rw [List.take_succ_eq_append_getElem hk, List.all_append]
  have : l[k] = x := by rw [← hx, List.getD_eq_getElem?_getD, List.getElem?_eq_getElem hk]; rfl
  rw [this]; simp

set_option maxHeartbeats 8000000 in
theorem walk (W : World) {v : Value} {l : List Ins} {s : ByteArray} (w0 : InsAt W v l) (w1 : s.size ≤ maxLen) (hF : RdW W ∧ FTab W ∧ ITab W ∧ WTab W) :
    Calls Tryz.prog 6 #[v, .string s] W fun e w' => e = .returned (.bool true) ∧ Up W w' := by
  obtain ⟨hR, hFt, hI, hW⟩ := hF
  have HEX := Lib.hid (fun x (hx : Up W x) => law_examples x (hR.up hx) (hFt.up hx) (hI.up hx) (hW.up hx))
  have HFD := Lib.hid (fun (x : Ins) (hx : InR x) w => r47_Formed x hx (formB x) rfl w)
  have HPS := Lib.hid (fun t (ht : t.size ≤ 1000000) x (hx : Up W x) => isa_Parse t ht x (hR.up hx) (hFt.up hx) (hI.up hx) (hW.up hx))
  have HFM := Lib.hid (fun a m x (hx : Up W x) (ha : InsAt x a m) (hm : m.length ≤ 100000) => isa_Format a m x ha hm (hFt.up hx) (hI.up hx) (hW.up hx))
  have HV := Lib.hid w0
  obtain ⟨⟨a, cap, rfl⟩, hmax⟩ := w0.slice
  obtain ⟨n, hn⟩ : ∃ n, l.length = n := ⟨_, rfl⟩
  obtain ⟨m, hm⟩ : ∃ m, s.size = m := ⟨_, rfl⟩
  rw [hn]
  have HN := Lib.hid hn
  have HM := Lib.hid hm
  have hsz : ((Value.string s).cells.size) = 1 := rfl
  clear w0 w1 hR hFt hI hW hn hmax hsz
  go_enter Tryz.func6, Tryz.ntmps6
  by_cases h1 : 200 < n
  · have h1I : (200 : Int) < n := by omega
    go_wp2_with (go_at_call 9; refine (HEX.out _ (Up.refl _)).mono ?_; rintro e ze ⟨rfl, hze⟩)
    go_ret
    exact ⟨rfl, hze⟩
  · have h1I : ¬ (200 : Int) < n := by omega
    by_cases h2 : 4000 < m
    · have h2I : (4000 : Int) < (s.size : Int) := by omega
      go_wp2_with (go_at_call 9; refine (HEX.out _ (Up.refl _)).mono ?_; rintro e ze ⟨rfl, hze⟩)
      go_ret
      exact ⟨rfl, hze⟩
    · have h2I : ¬ (4000 : Int) < (s.size : Int) := by omega
      clear hm
      go_wp2
      go_loopw [5, 6] (fun fv iv wr => ∃ k : Nat, k ≤ n ∧ iv = .int .i64 k ∧ fv = .bool ((l.take k).all formB) ∧ Up W wr) (fun _ iv _ => n - (intOf iv).toNat)
      case atStart => exact ⟨0, by omega, rfl, rfl, Up.refl _⟩
      case round =>
        rename World => wr
        obtain ⟨k, hk, rfl, rfl, hU⟩ := hrel
        have HU := Lib.hid hU
        clear hU
        by_cases hlt : k < n
        · have hltI : (k : Int) < n := by omega
          obtain ⟨x, hx⟩ : ∃ y, l.getD k i0 = y := ⟨_, rfl⟩
          obtain ⟨bl, off, ha, hbl, ⟨k0, k1, k2, k3, k4, k5, k6, k7, k8, k9, k10⟩, hxr⟩ := HV.out.elem HU.out k (by rw [HN.out]; exact hlt) HN.out (by rw [HN.out]) hx
          subst ha
          have hb1 : bl < wr.heap.size := Nat.lt_of_lt_of_le hbl HU.out.size
          have HT := Lib.hid (take_all HN.out hlt hx)
          have HFX := Lib.hid (HFD.out x hxr)
          obtain ⟨op, A, b, c, ⟨n1, d⟩, kd, bi, fr, ro, ov⟩ := x
          dsimp only at k0 k1 k2 k3 k4 k5 k6 k7 k8 k9 k10
          obtain ⟨fx, hfx⟩ : ∃ q, formB (op, A, b, c, (n1, d), kd, bi, fr, ro, ov) = q := ⟨_, rfl⟩
          rw [hfx] at HT HFX
          obtain ⟨ft, hft⟩ : ∃ q, (l.take k).all formB = q := ⟨_, rfl⟩
          rw [hft] at HT
          rw [hft]
          clear hx hxr hfx hft
          cases ft
          · go_wp2
            go_roundw
            case rel => exact ⟨k + 1, by omega, by go_num, by rw [HT.out]; rfl, HU.out⟩
            case measure => simp [intOf]; omega
          · go_wp2_with (go_at_call 19; refine (HFX.out _).mono ?_; rintro e z ⟨rfl, hz⟩; replace HU := Lib.hid (HU.out.trans hz); clear hz)
            go_roundw
            case rel => exact ⟨k + 1, by omega, by go_num, by rw [HT.out]; simp, HU.out⟩
            case measure => simp [intOf]; omega
        · obtain rfl : k = n := by omega
          have HALL : Hid ((l.take k).all formB = l.all formB) := Lib.hid (by rw [List.take_of_length_le (by rw [HN.out]; omega)])
          rw [HALL.out]
          obtain ⟨q, hq⟩ : ∃ q, parseP s = q := ⟨_, rfl⟩
          have HP2 := Lib.hid (fun x hx => HPS.out s (by omega) x hx)
          rw [hq] at HP2
          have HQ := Lib.hid hq
          clear hq HALL
          obtain ⟨qo, qa, qe⟩ := q
          dsimp only at HP2
          cases hall : l.all formB
          · clear hall
            by_cases hqe : qe = 0
            · subst hqe
              have hfp := format_parse (s := s.toList) (by rw [← parseP_eq, HQ.out])
              rw [← parseP_eq, HQ.out] at hfp
              dsimp only at hfp
              have HFS : Hid (∀ x a, Up W x → InsAt x a qo → Calls Tryz.prog 12 #[a] x fun e w' => e = .returned (.string s) ∧ Up x w') := Lib.hid (fun x a hx ha => by
                have := HFM.out a qo x hx ha (by have := hfp.2; omega)
                rw [hfp.1, bst_toList] at this
                exact this)
              clear hfp
              go_wp2_with (first
                | (go_at_call 9; refine (HEX.out _ HU3.out).mono ?_; rintro e ze ⟨rfl, hze⟩)
                | (go_at_call 12; refine (HFS.out _ _ HU2.out HPV.out).mono ?_; rintro e z3 ⟨rfl, hz3⟩; have HU3 := Lib.hid (HU2.out.trans hz3); clear hz3)
                | (go_at_call 16; refine (HP2.out _ HU.out).mono ?_; rintro e z2 ⟨pv, rfl, hz2, hpv⟩; have HU2 := Lib.hid (HU.out.trans hz2); have HPV := Lib.hid hpv; clear hz2 hpv))
              go_ret
              exact ⟨rfl, HU3.out.trans hze⟩
            · have hq1 : (qe == 0) = false := by rw [beq_eq_false_iff_ne]; exact hqe
              have hq2 : (qe != 0) = true := by rw [bne_iff_ne]; exact hqe
              go_wp2_with (first
                | (go_at_call 9; refine (HEX.out _ HU2.out).mono ?_; rintro e ze ⟨rfl, hze⟩)
                | (go_at_call 16; refine (HP2.out _ HU.out).mono ?_; rintro e z2 ⟨pv, rfl, hz2, hpv⟩; have HU2 := Lib.hid (HU.out.trans hz2); clear hz2 hpv))
              go_ret
              exact ⟨rfl, HU2.out.trans hze⟩
          · have hwf : l.all wfB = true := by
              rw [← hall]
              exact congrArg (fun f => l.all f) (funext wf_form)
            have hfl := parse_format hwf (by rw [HN.out]; omega)
            rw [← bst_list (formatL l), ← parseP_eq] at hfl
            have HVK : Hid (InsAt W (.slice a k cap) l) := Lib.hid (by have := HV.out; rw [HN.out] at this; exact this)
            have hsz := formatL_len HV.out.2 (by rw [HN.out]; omega)
            have HPL : Hid (∀ x, Up W x → Calls Tryz.prog 16 #[.string (bst (formatL l))] x fun e w' => ∃ v, e = .returned (.tuple #[v, .int .i64 0, .int .i64 0]) ∧ Up x w' ∧ InsAt w' v l) := Lib.hid (fun x hx => by
              have := HPS.out (bst (formatL l)) hsz x hx
              rw [hfl] at this
              exact this)
            have HFL := Lib.hid (fun x (hx : Up W x) => HFM.out (.slice a k cap) l x hx (HVK.out.up hx) (by rw [HN.out]; omega))
            have HSM : Hid (∀ x c d, InsAt x c l → InsAt x d l → Calls Tryz.prog 18 #[c, d] x fun e w' => e = .returned (.bool true) ∧ Up x w') := Lib.hid (fun x c d hc hd => by
              have := law_same c d l l x hc hd (by rw [HN.out]; omega) (by rw [HN.out]; omega)
              rw [decide_eq_true (rfl : l = l)] at this
              exact this)
            clear hall hwf hfl hsz
            by_cases hqe : qe = 0
            · subst hqe
              have hfp := format_parse (s := s.toList) (by rw [← parseP_eq, HQ.out])
              rw [← parseP_eq, HQ.out] at hfp
              dsimp only at hfp
              have HFS : Hid (∀ x a, Up W x → InsAt x a qo → Calls Tryz.prog 12 #[a] x fun e w' => e = .returned (.string s) ∧ Up x w') := Lib.hid (fun x a hx ha => by
                have := HFM.out a qo x hx ha (by have := hfp.2; omega)
                rw [hfp.1, bst_toList] at this
                exact this)
              clear hfp
              go_wp2_with (first
                | (go_at_call 9; refine (HEX.out _ HU7.out).mono ?_; rintro e ze ⟨rfl, hze⟩)
                | (go_at_call 12; refine (HFS.out _ _ HU6.out HPV6.out).mono ?_; rintro e z7 ⟨rfl, hz7⟩; have HU7 := Lib.hid (HU6.out.trans hz7); clear hz7)
                | (go_at_call 16; refine (HP2.out _ HU5.out).mono ?_; rintro e z6 ⟨pv6, rfl, hz6, hpv⟩; have HU6 := Lib.hid (HU5.out.trans hz6); have HPV6 := Lib.hid hpv; clear hz6 hpv)
                | (go_at_call 18; refine (HSM.out _ _ _ (HVK.out.up HU4.out) HPV.out).mono ?_; rintro e z5 ⟨rfl, hz5⟩; have HU5 := Lib.hid (HU4.out.trans hz5); clear hz5)
                | (go_at_call 16; refine (HPL.out _ HU3.out).mono ?_; rintro e z4 ⟨pv, rfl, hz4, hpv⟩; have HU4 := Lib.hid (HU3.out.trans hz4); have HPV := Lib.hid hpv; clear hz4 hpv)
                | (go_at_call 12; refine (HFL.out _ HU.out).mono ?_; rintro e z3 ⟨rfl, hz3⟩; have HU3 := Lib.hid (HU.out.trans hz3); clear hz3))
              go_ret
              exact ⟨rfl, HU7.out.trans hze⟩
            · have hq1 : (qe == 0) = false := by rw [beq_eq_false_iff_ne]; exact hqe
              have hq2 : (qe != 0) = true := by rw [bne_iff_ne]; exact hqe
              go_wp2_with (first
                | (go_at_call 9; refine (HEX.out _ HU6.out).mono ?_; rintro e ze ⟨rfl, hze⟩)
                | (go_at_call 16; refine (HP2.out _ HU5.out).mono ?_; rintro e z6 ⟨pv6, rfl, hz6, hpv⟩; have HU6 := Lib.hid (HU5.out.trans hz6); clear hz6 hpv)
                | (go_at_call 18; refine (HSM.out _ _ _ (HVK.out.up HU4.out) HPV.out).mono ?_; rintro e z5 ⟨rfl, hz5⟩; have HU5 := Lib.hid (HU4.out.trans hz5); clear hz5)
                | (go_at_call 16; refine (HPL.out _ HU3.out).mono ?_; rintro e z4 ⟨pv, rfl, hz4, hpv⟩; have HU4 := Lib.hid (HU3.out.trans hz4); have HPV := Lib.hid hpv; clear hz4 hpv)
                | (go_at_call 12; refine (HFL.out _ HU.out).mono ?_; rintro e z3 ⟨rfl, hz3⟩; have HU3 := Lib.hid (HU.out.trans hz3); clear hz3))
              go_ret
              exact ⟨rfl, HU6.out.trans hze⟩
end Go.Proofs.YtlglfdhiopnglaaGreatDoor.isaRoundTrip
