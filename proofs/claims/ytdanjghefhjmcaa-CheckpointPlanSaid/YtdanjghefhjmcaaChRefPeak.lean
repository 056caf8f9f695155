/-
  Peak (chapter 28, the reference's side).
-/
import Derived.Test.YtdanjghefhjmcaaChPeakEq
namespace Go.Proofs.Ytdanjghefhjmcaa
open Go.ChangeShapes Go.WideShapes Go.ChangeAt Go.RowKit
set_option linter.unusedVariables false
set_option linter.unusedSimpArgs false

theorem anyB_snoc (l : List Actn) (a : Actn) (x : Int) : anyB (l ++ [a]) x = (anyB l x || (a.1 == 2 && a.2.2 == x)) := by
  simp [anyB, List.any_append]

set_option maxHeartbeats 8000000 in
set_option maxRecDepth 100000 in
theorem r28_Peak (v : Value) (l : List Actn) (w : World) (hv : IsActs w v l) (hlen : l.length ≤ 65536) :
    Calls Try.prog 19 #[v] w fun e w' => e = .returned (.int .i64 (peakR l)) ∧ Up w w' := by
  obtain ⟨⟨a, cap, rfl, h0, hc⟩, hmax⟩ := hv
  obtain ⟨len, hl⟩ : ∃ k, l.length = k := ⟨_, rfl⟩
  rw [hl] at hc hmax h0 hlen
  have HL := Lib.hid hl
  rw [hl]
  clear hl
  have hl2 : (len : Int) ≤ 65536 := by omega
  have HC := Lib.hid hc
  have H0 := Lib.hid h0
  clear hc h0
  go_enter Try.func19, Try.ntmps19
  go_wp2
  go_loopw [3, 4] (fun n i wr => ∃ q m : Nat, q ≤ len ∧ m ≤ q ∧ n = .int .i64 m ∧ i = .int .i64 q ∧ Up w wr ∧ peakGo l (l.drop q) q m = peakR l) (fun _ i _ => len - (intOf i).toNat)
  case atStart => exact ⟨0, 0, by omega, by omega, rfl, rfl, Up.refl _, rfl⟩
  case round =>
    rename_i wr
    obtain ⟨q, m, hq, hmq, rfl, rfl, hU, hP⟩ := hrel
    have HP := Lib.hid hP
    clear hP
    have hm2 : (m : Int) ≤ 65536 := by omega
    by_cases hlt : q < len
    · obtain ⟨x, rfl⟩ : ∃ x, a = some x := by
        cases a with
        | none => exact absurd (H0.out rfl) (by omega)
        | some x => exact ⟨x, rfl⟩
      obtain ⟨g1, g2, g3⟩ := HC.out x rfl (by omega)
      obtain ⟨bl, off, sp⟩ := x
      have g1' : sp = none := g1
      subst g1'
      have cellsAt : ∀ (W : World), Up w W → ∀ p, p < len → W.cell? ⟨bl, off + p * 3, none⟩ = some (.int .i64 (l.getD p (0, 0, 0)).1) ∧ W.cell? ⟨bl, off + p * 3 + 2, none⟩ = some (.int .i64 (l.getD p (0, 0, 0)).2.2) := fun W hW p hp => by
        refine ⟨?_, ?_⟩
        · rw [hW.cell _ _ g2]; have := g3 p 0 hp (by omega); simpa only [actF, Nat.add_zero] using this
        · rw [hW.cell _ _ g2]; have := g3 p 2 hp (by omega); simpa only [actF, Nat.add_zero] using this
      have CA := Lib.hid cellsAt
      have hql : q < l.length := by rw [HL.out]; exact hlt
      obtain ⟨op, at', sl, ha⟩ : ∃ op at' sl, l.getD q (0, 0, 0) = (op, at', sl) := ⟨_, _, _, rfl⟩
      obtain ⟨k0, k2⟩ := cellsAt wr hU q hlt
      rw [ha] at k0 k2
      have hdrop : l.drop q = (op, at', sl) :: l.drop (q + 1) := by
        rw [List.drop_eq_getElem_cons hql, ← ha, List.getD_eq_getElem?_getD, List.getElem?_eq_getElem hql]; rfl
      have HP2 : Hid (peakGo l (l.drop (q + 1)) (q + 1) (if againP l q (op, at', sl) then m else m + 1) = peakR l) := Lib.hid (by
        rw [← HP.out, hdrop]; rfl)
      have HA := Lib.hid ha
      have HUw := Lib.hid hU
      clear g3 cellsAt ha hdrop HP hU
      have hqi : (q : Int) < (len : Int) := by omega
      have hq0 : (0 : Int) ≤ (q : Int) := by omega
      by_cases h2 : op = 2
      · subst h2
        go_wp2
        go_loopw [5, 6] (fun g kk w2 => ∃ p : Nat, p ≤ q ∧ kk = .int .i64 p ∧ g = .bool (anyB (l.take p) sl) ∧ Up w w2) (fun _ kk _ => q - (intOf kk).toNat)
        case atStart => exact ⟨0, by omega, rfl, rfl, HUw.out⟩
        case round =>
          obtain ⟨p, hp, rfl, rfl, hU2⟩ := hrel
          by_cases hpq : p < q
          · obtain ⟨m0, m2⟩ := CA.out wr hU2 p (by omega)
            obtain ⟨n0, n2⟩ := CA.out wr hU2 q hlt
            rw [HA.out] at n0 n2
            obtain ⟨op', at2, sl', ha'⟩ : ∃ op at' sl, l.getD p (0, 0, 0) = (op, at', sl) := ⟨_, _, _, rfl⟩
            rw [ha'] at m0 m2
            have hpi : (p : Int) < (q : Int) := by omega
            have hp0 : (0 : Int) ≤ (p : Int) := by omega
            have hpl : (p : Int) < (len : Int) := by omega
            have hpL : p < l.length := by rw [HL.out]; omega
            have hT : anyB (l.take (p + 1)) sl = (anyB (l.take p) sl || (op' == 2 && sl' == sl)) := by
              rw [List.take_succ_eq_append_getElem hpL, anyB_snoc]
              have : l[p] = (op', at2, sl') := by rw [← ha', List.getD_eq_getElem?_getD, List.getElem?_eq_getElem hpL]; rfl
              rw [this]
            have HT := Lib.hid hT
            have HU2 := Lib.hid hU2
            obtain ⟨g, hg⟩ : ∃ g, anyB (l.take p) sl = g := ⟨_, rfl⟩
            rw [hg] at HT ⊢
            clear hT hU2 ha' k0 k2 hg
            cases g
            · by_cases e1 : op' = 2
              · subst e1
                by_cases e2 : sl' = sl
                · subst e2
                  go_wp2
                  go_quiet (fail)
                  go_wp2
                  go_roundw
                  case rel => exact ⟨p + 1, by omega, by go_num, by rw [HT.out]; simp, HU2.out.drewN _⟩
                  case measure => simp [intOf]; omega
                · have e3 : (sl' == sl) = false := by simpa using e2
                  go_wp2
                  go_quiet (fail)
                  go_wp2
                  go_roundw
                  case rel => exact ⟨p + 1, by omega, by go_num, by rw [HT.out]; simp [e3], HU2.out.drewN _⟩
                  case measure => simp [intOf]; omega
              · have e3 : (op' == 2) = false := by simpa using e1
                go_wp2
                go_quiet (fail)
                go_wp2
                go_roundw
                case rel => exact ⟨p + 1, by omega, by go_num, by rw [HT.out]; simp [e3], HU2.out.drewN _⟩
                case measure => simp [intOf]; omega
            · go_wp2
              go_quiet (fail)
              go_wp2
              go_roundw
              case rel => exact ⟨p + 1, by omega, by go_num, by rw [HT.out]; simp, HU2.out.drewN _⟩
              case measure => simp [intOf]; omega
          · obtain rfl : p = q := by omega
            obtain ⟨g, hg⟩ : ∃ g, anyB (l.take p) sl = g := ⟨_, rfl⟩
            have HP3 : Hid (peakGo l (l.drop (p + 1)) (p + 1) (if g = true then m else m + 1) = peakR l) := Lib.hid (by
              rw [← HP2.out, againP, hg]; simp)
            rw [hg]
            have HU2 := Lib.hid hU2
            clear hg hU2 k0 k2
            cases g
            · go_wp2
              go_roundw
              case rel => exact ⟨p + 1, m + 1, by omega, by omega, by go_num, by go_num, HU2.out, by have := HP3.out; rw [if_neg (by simp)] at this; exact this⟩
              case measure => simp [intOf]; omega
            · go_wp2
              go_roundw
              case rel => exact ⟨p + 1, m, by omega, by omega, by go_num, by go_num, HU2.out, by have := HP3.out; rw [if_pos (by rfl)] at this; exact this⟩
              case measure => simp [intOf]; omega
      · have h3 : (op == 2) = false := by simpa using h2
        have h4 : (op != 2) = true := by simpa using h2
        have HP3 : Hid (peakGo l (l.drop (q + 1)) (q + 1) m = peakR l) := Lib.hid (by
          rw [← HP2.out, againP, h3]; simp)
        go_wp2
        go_loopw [5, 6] (fun g kk w2 => ∃ p : Nat, p ≤ q ∧ kk = .int .i64 p ∧ g = .bool true ∧ Up w w2) (fun _ kk _ => q - (intOf kk).toNat)
        case atStart => exact ⟨0, by omega, rfl, rfl, HUw.out⟩
        case round =>
          obtain ⟨p, hp, rfl, rfl, hU2⟩ := hrel
          have HU2 := Lib.hid hU2
          clear hU2 k0 k2
          by_cases hpq : p < q
          · have hpi : (p : Int) < (q : Int) := by omega
            go_wp2
            go_quiet (fail)
            go_wp2
            go_roundw
            case rel => exact ⟨p + 1, by omega, by go_num, rfl, HU2.out.drewN _⟩
            case measure => simp [intOf]; omega
          · obtain rfl : p = q := by omega
            go_wp2
            go_roundw
            case rel => exact ⟨p + 1, m, by omega, by omega, by go_num, by go_num, HU2.out, HP3.out⟩
            case measure => simp [intOf]; omega
    · have hqi : (len : Int) ≤ (q : Int) := by omega
      have hdrop : l.drop q = [] := List.drop_eq_nil_of_le (by rw [HL.out]; omega)
      have HE : Hid (m = peakR l) := Lib.hid (by rw [← HP.out, hdrop]; rfl)
      clear hdrop
      go_wp2
      go_ret
      exact ⟨ret_int (by rw [← HE.out]), hU⟩
end Go.Proofs.Ytdanjghefhjmcaa
