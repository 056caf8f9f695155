/-
  Contracts of chapter 3: the check of operands. Printed by mk03d.py.
-/
import Derived.Test.YtknojjmbhbbcmaaFixC
import Derived.Test.YtknojjmbhbbcmaaSl
namespace Go.Proofs.Ytknojjmbhbbcmaa
open Go.ChangeShapes Go.WideShapes Go.ChangeAt Go.RowKit
set_option linter.unusedVariables false
set_option linter.unusedSimpArgs false

def valF (l : List (Int × Int)) (i j : Nat) : Value := match j with
  | 0 => .int .i64 (l.getD i (0, 0)).1
  | _ => .int .i64 (l.getD i (0, 0)).2
def chkE (k b f r o : Int) (l : List (Int × Int)) : Int := if vT k b f r o = false then 10 else if (l.all fun v => vV b v.1 v.2) = true then 0 else 1

set_option maxHeartbeats 2000000 in
theorem fixed_check (k b f r o : Int) (l : List (Int × Int)) (sv : Value) (e : Int) (he : chkE k b f r o l = e) (hl : l.length ≤ 65536) (w : World) (hs : SlAt w sv l.length 2 (valF l)) :
    Calls Try.prog 47 #[.agg #[.int .i64 k, .int .i64 b, .int .i64 f, .int .i64 r, .int .i64 o], sv] w fun e' w' => e' = .returned (.int .i64 e) ∧ Up w w' := by
  obtain ⟨⟨a, cap, rfl, h0, hc0⟩, hmax⟩ := hs
  obtain ⟨len, hlen⟩ : ∃ n, l.length = n := ⟨_, rfl⟩
  rw [hlen] at h0 hc0 hmax hl
  have HL := Lib.hid hlen
  rw [hlen]
  have hl2 : (len : Int) ≤ 65536 := by omega
  have HC := Lib.hid hc0
  have H0 := Lib.hid h0
  have HR := Lib.hid he
  clear he hc0 h0 hlen
  obtain ⟨v, hv⟩ : ∃ v, vT k b f r o = v := ⟨_, rfl⟩
  have HV := Lib.hid hv
  clear hv
  cases v
  · have HE : Hid (eT k b f r o = 10) := Lib.hid (by rw [eT, HV.out]; rfl)
    have HN : Hid (10 = e) := Lib.hid (by rw [← HR.out, chkE, if_pos HV.out])
    clear HR
    go_enter Try.func47, Try.ntmps47
    go_wp2_with fail
    refine (fixed_ValidateType _ _ _ _ _ _ HE.out _).mono ?_
    rintro e1 x1 ⟨rfl, hW⟩
    obtain ⟨hc, hf⟩ := hW.both
    have HW := Lib.hid hW
    clear hW
    go_wp2
    go_ret
    exact ⟨ret_int HN.out, (by repeat (first | exact Up.trans (by repeat (first | exact Up.refl _ | refine Up.alloc ?_ _)) HW.out | refine Up.setCell ?_ (by first | omega | (simp; done) | (simp; omega)) _ | refine Up.alloc ?_ _))⟩
  · have HE : Hid (eT k b f r o = 0) := Lib.hid (eT_zero.2 HV.out)
    have HN : Hid ((if (l.all fun v => vV b v.1 v.2) = true then 0 else 1) = e) := Lib.hid (by rw [← HR.out, chkE, if_neg (show ¬ vT k b f r o = false by rw [HV.out]; simp)])
    clear HR
    go_enter Try.func47, Try.ntmps47
    go_wp2_with fail
    refine (fixed_ValidateType _ _ _ _ _ _ HE.out _).mono ?_
    rintro e1 x1 ⟨rfl, hW⟩
    obtain ⟨hc, hf⟩ := hW.both
    have HW := Lib.hid hW
    clear hW
    go_wp2_with fail
    go_loopw [15] (fun i wr => ∃ q : Nat, q ≤ len ∧ i = .int .i64 q ∧ Up (w.alloc (.cells #[.int .i64 k, .int .i64 b, .int .i64 f, .int .i64 r, .int .i64 o] 23)) wr ∧ ((l.take q).all fun v => vV b v.1 v.2) = true) (fun i _ => len - (intOf i).toNat)
    case atStart => exact ⟨0, by omega, rfl, HW.out, rfl⟩
    case round =>
      rename_i wr
      obtain ⟨q, hq, rfl, hU, hall⟩ := hrel
      have HA := Lib.hid hall
      have HU := Lib.hid hU
      clear hall hc hf
      obtain ⟨hc, hf⟩ := hU.both
      have hz0 : w.heap.size < wr.heap.size := by have := hU.size; simp at this; omega
      by_cases hlt : q < len
      · obtain ⟨x, rfl⟩ : ∃ x, a = some x := by
          cases a with
          | none => exact absurd (H0.out rfl) (by omega)
          | some x => exact ⟨x, rfl⟩
        obtain ⟨g1, g2, g3⟩ := HC.out x rfl (by omega)
        obtain ⟨bl, off, sp⟩ := x
        have g1' : sp = none := g1
        subst g1'
        have g2' : bl < w.heap.size := g2
        obtain ⟨n1, d1, hnd⟩ : ∃ n1 d1, l.getD q (0, 0) = (n1, d1) := ⟨_, _, rfl⟩
        have hup := ((Up.refl w).alloc (.cells #[.int .i64 k, .int .i64 b, .int .i64 f, .int .i64 r, .int .i64 o] 23)).trans hU
        have k0 : wr.cell? ⟨bl, off + q * 2, none⟩ = some (.int .i64 n1) := by
          rw [hup.cell _ _ g2']; have := g3 q 0 hlt (by omega); simpa only [valF, hnd, Nat.add_zero] using this
        have k1 : wr.cell? ⟨bl, off + q * 2 + 1, none⟩ = some (.int .i64 d1) := by
          rw [hup.cell _ _ g2']; have := g3 q 1 hlt (by omega); simpa only [valF, hnd] using this
        have k0' : w.cell? ⟨bl, off + q * 2, none⟩ = some (.int .i64 n1) := by
          have := g3 q 0 hlt (by omega); simpa only [valF, hnd, Nat.add_zero] using this
        have k1' : w.cell? ⟨bl, off + q * 2 + 1, none⟩ = some (.int .i64 d1) := by
          have := g3 q 1 hlt (by omega); simpa only [valF, hnd] using this
        have hbw : bl < wr.heap.size := by omega
        have hqw : (q : Int) < (len : Int) := by omega
        have hq0 : (0 : Int) ≤ (q : Int) := by omega
        have htake : l.take (q + 1) = l.take q ++ [(n1, d1)] := by
          have hq2 : q < l.length := by rw [HL.out]; exact hlt
          rw [List.take_succ_eq_append_getElem hq2, ← hnd, List.getD_eq_getElem?_getD, List.getElem?_eq_getElem hq2]; rfl
        have hmem : (n1, d1) ∈ l := by
          have hq2 : q < l.length := by rw [HL.out]; exact hlt
          rw [← hnd, List.getD_eq_getElem?_getD, List.getElem?_eq_getElem hq2]; exact List.getElem_mem hq2
        have HT := Lib.hid htake
        have HM := Lib.hid hmem
        obtain ⟨vv, hvv⟩ : ∃ vv, vV b n1 d1 = vv := ⟨_, rfl⟩
        have HVV := Lib.hid hvv
        have HTV : Hid (vTV k b f r o n1 d1 = vv) := Lib.hid (by rw [vTV, HV.out, hvv]; rfl)
        clear g3 hnd hup hU htake hmem hvv
        cases vv
        · go_wp2_with fail
          refine (fixed_Valid _ _ _ _ _ _ _ false HTV.out _).mono ?_
          rintro e2 x2 ⟨rfl, hx⟩
          have HX := Lib.hid hx
          clear hx
          go_wp2
          go_ret
          exact ⟨ret_int (by rw [← HN.out, if_neg (fun h => by have := List.all_eq_true.1 h _ HM.out; rw [HVV.out] at this; cases this)]), Up.trans (Up.trans ((Up.refl w).alloc _) HU.out) (Up.trans ((Up.refl _).alloc _) HX.out)⟩
        · go_wp2_with fail
          refine (fixed_Valid _ _ _ _ _ _ _ true HTV.out _).mono ?_
          rintro e2 x2 ⟨rfl, hx⟩
          have HX := Lib.hid hx
          clear hx
          go_wp2
          go_roundw
          case rel => exact ⟨q + 1, by omega, by go_num, Up.trans HU.out (Up.trans ((Up.refl _).alloc _) HX.out), by rw [HT.out, List.all_append, HA.out]; simp [HVV.out]⟩
          case measure => simp [intOf]; omega
      · have hqw : (len : Int) ≤ (q : Int) := by omega
        have HL2 : Hid (l.take q = l) := Lib.hid (List.take_of_length_le (by rw [HL.out]; omega))
        clear hU
        go_wp2
        go_ret
        exact ⟨ret_int (by rw [← HN.out, if_pos (by have := HA.out; rw [HL2.out] at this; exact this)]), Up.trans ((Up.refl w).alloc _) HU.out⟩

set_option maxHeartbeats 2000000 in
theorem ref03_check (k b f r o n1 d1 n2 d2 : Int) (e : Int) (he : chkE k b f r o [(n1, d1), (n2, d2)] = e) (w : World) :
    Calls Try.prog 48 #[.agg #[.int .i64 k, .int .i64 b, .int .i64 f, .int .i64 r, .int .i64 o], .agg #[.int .i64 n1, .int .i64 d1], .agg #[.int .i64 n2, .int .i64 d2]] w fun e' w' => e' = .returned (.int .i64 e) ∧ Up w w' := by
  have HR := Lib.hid he
  clear he
  obtain ⟨v, hv⟩ : ∃ v, vT k b f r o = v := ⟨_, rfl⟩
  have HV := Lib.hid hv
  clear hv
  cases v
  · have HE : Hid (eT k b f r o = 10) := Lib.hid (by rw [eT, HV.out]; rfl)
    have HN : Hid (10 = e) := Lib.hid (by rw [← HR.out, chkE, if_pos HV.out])
    clear HR
    go_enter Try.func48, Try.ntmps48
    go_wp2_with fail
    refine (ref03_ValidateType _ _ _ _ _ _ HE.out _).mono ?_
    rintro e1 x1 ⟨rfl, hW⟩
    obtain ⟨hc, hf⟩ := hW.both
    have HW := Lib.hid hW
    clear hW
    go_wp2
    go_ret
    exact ⟨ret_int HN.out, (by repeat (first | exact Up.trans (by repeat (first | exact Up.refl _ | refine Up.alloc ?_ _)) HW.out | refine Up.setCell ?_ (by first | omega | (simp; done) | (simp; omega)) _ | refine Up.alloc ?_ _))⟩
  · have HE : Hid (eT k b f r o = 0) := Lib.hid (eT_zero.2 HV.out)
    have HN : Hid ((if ([(n1, d1), (n2, d2)].all fun v => vV b v.1 v.2) = true then 0 else 1) = e) := Lib.hid (by rw [← HR.out, chkE, if_neg (show ¬ vT k b f r o = false by rw [HV.out]; simp)])
    obtain ⟨rfl, s1, s2, s3, s4, s5, s6, s7⟩ := vT_spec HV.out
    obtain ⟨u1, h1⟩ : ∃ u, vV b n1 d1 = u := ⟨_, rfl⟩
    obtain ⟨u2, h2⟩ : ∃ u, vV b n2 d2 = u := ⟨_, rfl⟩
    have H1 := Lib.hid h1
    have H2 := Lib.hid h2
    clear HR h1 h2 s7
    cases u1
    · go_enter Try.func48, Try.ntmps48
      go_wp2_with fail
      refine (ref03_ValidateType _ _ _ _ _ _ HE.out _).mono ?_
      rintro e1 x1 ⟨rfl, hW⟩
      obtain ⟨hc, hf⟩ := hW.both
      have HW := Lib.hid hW
      clear hW
      go_wp2_with fail
      refine (base_Val_fix _ _ _ _ _ _ s1 s2 false H1.out _).mono ?_
      rintro e2 x2 ⟨rfl, hx⟩
      replace HW := Lib.hid (HW.out.trans hx)
      clear hc hf hx
      obtain ⟨hc, hf⟩ := HW.out.both
      go_wp2
      go_ret
      exact ⟨ret_int (by rw [← HN.out]; simp [H1.out]), (by repeat (first | exact Up.trans (by repeat (first | exact Up.refl _ | refine Up.alloc ?_ _)) HW.out | refine Up.setCell ?_ (by first | omega | (simp; done) | (simp; omega)) _ | refine Up.alloc ?_ _))⟩
    · cases u2
      · go_enter Try.func48, Try.ntmps48
        go_wp2_with fail
        refine (ref03_ValidateType _ _ _ _ _ _ HE.out _).mono ?_
        rintro e1 x1 ⟨rfl, hW⟩
        obtain ⟨hc, hf⟩ := hW.both
        have HW := Lib.hid hW
        clear hW
        go_wp2_with fail
        refine (base_Val_fix _ _ _ _ _ _ s1 s2 true H1.out _).mono ?_
        rintro e2 x2 ⟨rfl, hx⟩
        replace HW := Lib.hid (HW.out.trans hx)
        clear hc hf hx
        obtain ⟨hc, hf⟩ := HW.out.both
        go_wp2_with fail
        refine (base_Val_fix _ _ _ _ _ _ s1 s2 false H2.out _).mono ?_
        rintro e3 x3 ⟨rfl, hx⟩
        replace HW := Lib.hid (HW.out.trans hx)
        clear hc hf hx
        obtain ⟨hc, hf⟩ := HW.out.both
        go_wp2
        go_ret
        exact ⟨ret_int (by rw [← HN.out]; simp [H1.out, H2.out]), (by repeat (first | exact Up.trans (by repeat (first | exact Up.refl _ | refine Up.alloc ?_ _)) HW.out | refine Up.setCell ?_ (by first | omega | (simp; done) | (simp; omega)) _ | refine Up.alloc ?_ _))⟩
      · go_enter Try.func48, Try.ntmps48
        go_wp2_with fail
        refine (ref03_ValidateType _ _ _ _ _ _ HE.out _).mono ?_
        rintro e1 x1 ⟨rfl, hW⟩
        obtain ⟨hc, hf⟩ := hW.both
        have HW := Lib.hid hW
        clear hW
        go_wp2_with fail
        refine (base_Val_fix _ _ _ _ _ _ s1 s2 true H1.out _).mono ?_
        rintro e2 x2 ⟨rfl, hx⟩
        replace HW := Lib.hid (HW.out.trans hx)
        clear hc hf hx
        obtain ⟨hc, hf⟩ := HW.out.both
        go_wp2_with fail
        refine (base_Val_fix _ _ _ _ _ _ s1 s2 true H2.out _).mono ?_
        rintro e3 x3 ⟨rfl, hx⟩
        replace HW := Lib.hid (HW.out.trans hx)
        clear hc hf hx
        obtain ⟨hc, hf⟩ := HW.out.both
        go_wp2
        go_ret
        exact ⟨ret_int (by rw [← HN.out]; simp [H1.out, H2.out]), (by repeat (first | exact Up.trans (by repeat (first | exact Up.refl _ | refine Up.alloc ?_ _)) HW.out | refine Up.setCell ?_ (by first | omega | (simp; done) | (simp; omega)) _ | refine Up.alloc ?_ _))⟩

end Go.Proofs.Ytknojjmbhbbcmaa
