/-
  The walk of DepgraphBetween.
-/
import Derived.Test.YtpccaifhcmcegaaDgLh
namespace Go.Proofs.Ytpccaifhcmcegaa.depgraphBetween
set_option linter.unusedSimpArgs false
open Go.ChangeShapes Go.WideShapes Go.ChangeAt Go.RowKit
set_option linter.unusedVariables false
set_option maxRecDepth 100000

set_option maxHeartbeats 16000000 in
theorem walk (w : World) {v : Value} {x : Nat × Pg} {fr to' : ByteArray} (hv : ProgAt x.1 w v x.2) (hf : fr.size ≤ maxLen) (ht : to'.size ≤ maxLen) : Calls Try.prog 8 #[v, .string fr, .string to'] w fun e w' => e = .returned (.bool true) ∧ Below w.heap.size w w' := by
  obtain ⟨N, p⟩ := x
  dsimp only at hv
  have HFS := Lib.hid hf
  have HTS := Lib.hid ht
  clear hf ht
  have HPX := Lib.hid (fun y (hy : Up w y) => hv.up hy)
  have HSMA := Lib.hid (fun y (hy : Up w y) => law_Small N p v y (hv.up hy))
  obtain ⟨v0, v1, v2, v3, v4, rfl, -⟩ := id hv
  have HU0 := Lib.hid ((Up.refl w).alloc (.cells #[v0, v1, v2, v3, v4] 27))
  have HB0 := Lib.hid (BoxC.new w 27 #[v0, v1, v2, v3, v4])
  have HLP := Lib.hid (fun y (hy : Up (w.alloc (.cells #[v0, v1, v2, v3, v4] 27)) y) => run_cs (P := Try.prog) Try.underlying27 rfl prog_info (cs := #[v0, v1, v2, v3, v4]) rfl (HB0.out.up hy).range)
  have HEX := Lib.hid (fun y => law_examples y)
  have HL0 := Lib.hid (HLP.out _ (Up.refl _))
  clear hv
  go_enter Try.func8, Try.ntmps8
  go_wp2_with (refine st_load HL0.out (by rfl) ?_)
  refine (HSMA.out _ HU0.out).mono ?_
  rintro e' W1 ⟨b, rfl, hy, hsp⟩
  have HV1 := Lib.hid hy
  have HSP := Lib.hid hsp
  clear hy hsp
  cases b
  · go_wp2_with (go_at_call 10; (with_reducible refine (HEX.out W1).mono ?_); rintro e' W2 ⟨rfl, hy⟩; have HV2 := Lib.hid hy; clear hy)
    go_ret
    exact ⟨rfl, (HU0.out.trans HV1.out).trans HV2.out⟩
  · have hsm := HSP.out rfl
    have hps : p.pars.length ≤ 40 ∧ p.defs.length ≤ 40 := ⟨hsm.pars, hsm.defs⟩
    obtain ⟨n, hn⟩ : ∃ n, (btwF p fr to').length = n := ⟨_, rfl⟩
    obtain ⟨b, hb⟩ : ∃ b, has (rchF p [to']) fr = b := ⟨_, rfl⟩
    have HBP : Hid (decide (0 < n) = b) := Lib.hid (by rw [← hb, ← hn]; exact btwF_pos p fr to')
    have HBB := Lib.hid hb
    have HN := Lib.hid hn
    have hnl : n ≤ 80 := by
      have h1 := List.length_filter_le (fun x => has (rchF p [x]) fr) (rchF p [to'])
      have h2 := rchF_len p [to']
      have h3 : (btwF p fr to').length ≤ (rchF p [to']).length := h1
      have h4 := hsm.pars
      have h5 := hsm.defs
      omega
    have hnI : (n : Int) ≤ 80 := by omega
    have HB1 := Lib.hid (Calls.strs (n := n) (p_Between N p _ fr to' W1 (HPX.out _ (HU0.out.trans HV1.out)) HTS.out (small_tot hsm) hps) hn)
    have HB2 := Lib.hid (fun y (hy : Up w y) => Calls.strs (n := n) (r20_Between N p _ fr to' y (HPX.out _ hy) HTS.out (small_tot hsm) hps) hn)
    have HRE := Lib.hid (fun y (hy : Up w y) (nv : Value) (hn : LsAt 1 16 strR y nv [to']) => p_Reachable N p _ nv [to'] y (HPX.out _ hy) hn (by simp) (small_tot hsm) hps)
    have HL1 := Lib.hid (HLP.out _ HV1.out)
    obtain ⟨B, hB⟩ : ∃ q, btwF p fr to' = q := ⟨_, rfl⟩
    rw [hB] at HB1 HB2
    have HBL : Hid (B.length = n) := Lib.hid (by rw [← hB]; exact hn)
    clear hsm hps hn hb hB
    have harm : decide (0 < n) = b := HBP.out
    obtain ⟨RT, hRT⟩ : ∃ q, rchF p [to'] = q := ⟨_, rfl⟩
    obtain ⟨kn, hkn⟩ : ∃ q, RT.length = q := ⟨_, rfl⟩
    have HKN := Lib.hid hkn
    rw [hRT] at HRE HBB
    clear hRT hkn
    cases b
    · have hn0 : n = 0 := by simpa using harm
      subst hn0
      clear harm
      go_wp2_with (first
        | (go_at_call 10; (with_reducible refine (HEX.out W5).mono ?_); rintro e' W6 ⟨rfl, hy⟩; have HV6 := Lib.hid (HV5.out.trans hy); clear hy)
        | (go_at_call 27; (with_reducible refine HHS.out.mono ?_); rintro e' x' ⟨rfl, hx'⟩; rw [hx']; clear hx' x')
        | (go_at_call 16; (with_reducible refine HR4.out.mono ?_); rintro e' W5 ⟨ka, kc, rfl, hy, hl⟩; have HV5 := Lib.hid ((HV4.out.alloc (.cells #[.string to'] 9)).trans hy); have HHS := Lib.hid (base_Has fr RT (.slice ka kn kc) W5 hl.1 false HBB.out); clear hy hl)
        | (refine st_loadG HL4.out (by rfl) (by rfl) ?_)
        | (go_at_call 11; (with_reducible refine HST.out.mono ?_); rintro e' W4 ⟨rfl, hy⟩; have HV4 := Lib.hid (HV3.out.trans hy); have HL4 := Lib.hid (HLP.out _ HV4.out); have HR4 := Lib.hid (Calls.strs (n := kn) (HRE.out _ (HU0.out.trans (HV4.out.alloc (.cells #[.string to'] 9))) _ (LsAt.one_str W4 HTS.out)) HKN.out); clear hy)
        | (go_at_call 26; (with_reducible refine HB3.out.mono ?_); rintro e' W3 ⟨ma, mc, rfl, hy, hl⟩; have HV3 := Lib.hid (HV2.out.trans hy); have HST := Lib.hid (base_Strings (.slice la 0 lc) (.slice ma 0 mc) B B W3 (HA2.out.up strR_up hy) hl.1 true (decide_eq_true rfl)); clear hy hl)
        | (refine st_load HL2.out (by rfl) ?_)
        | (go_at_call 25; (with_reducible refine HB1.out.mono ?_); rintro e' W2 ⟨la, lc, rfl, hy, hl⟩; have HV2 := Lib.hid (HV1.out.trans hy); have HA2 := Lib.hid hl.1; have HL2 := Lib.hid (HLP.out _ HV2.out); have HB3 := Lib.hid (HB2.out _ (HU0.out.trans HV2.out)); clear hy hl)
        | (refine st_load HL1.out (by rfl) ?_))
      go_ret
      exact ⟨rfl, HU0.out.trans HV6.out⟩
    · have hn0 : 0 < n := by simpa using harm
      have hn0I : (0 : Int) < n := by omega
      clear harm
      go_wp2_with (first
        | (go_at_call 10; (with_reducible refine (HEX.out W5).mono ?_); rintro e' W6 ⟨rfl, hy⟩; have HV6 := Lib.hid (HV5.out.trans hy); clear hy)
        | (go_at_call 27; (with_reducible refine HHS.out.mono ?_); rintro e' x' ⟨rfl, hx'⟩; rw [hx']; clear hx' x')
        | (go_at_call 16; (with_reducible refine HR4.out.mono ?_); rintro e' W5 ⟨ka, kc, rfl, hy, hl⟩; have HV5 := Lib.hid ((HV4.out.alloc (.cells #[.string to'] 9)).trans hy); have HHS := Lib.hid (base_Has fr RT (.slice ka kn kc) W5 hl.1 true HBB.out); clear hy hl)
        | (refine st_loadG HL4.out (by rfl) (by rfl) ?_)
        | (go_at_call 11; (with_reducible refine HST.out.mono ?_); rintro e' W4 ⟨rfl, hy⟩; have HV4 := Lib.hid (HV3.out.trans hy); have HL4 := Lib.hid (HLP.out _ HV4.out); have HR4 := Lib.hid (Calls.strs (n := kn) (HRE.out _ (HU0.out.trans (HV4.out.alloc (.cells #[.string to'] 9))) _ (LsAt.one_str W4 HTS.out)) HKN.out); clear hy)
        | (go_at_call 26; (with_reducible refine HB3.out.mono ?_); rintro e' W3 ⟨ma, mc, rfl, hy, hl⟩; have HV3 := Lib.hid (HV2.out.trans hy); have HST := Lib.hid (base_Strings (.slice la n lc) (.slice ma n mc) B B W3 (HA2.out.up strR_up hy) hl.1 true (decide_eq_true rfl)); clear hy hl)
        | (refine st_load HL2.out (by rfl) ?_)
        | (go_at_call 25; (with_reducible refine HB1.out.mono ?_); rintro e' W2 ⟨la, lc, rfl, hy, hl⟩; have HV2 := Lib.hid (HV1.out.trans hy); have HA2 := Lib.hid hl.1; have HL2 := Lib.hid (HLP.out _ HV2.out); have HB3 := Lib.hid (HB2.out _ (HU0.out.trans HV2.out)); clear hy hl)
        | (refine st_load HL1.out (by rfl) ?_))
      go_ret
      exact ⟨rfl, HU0.out.trans HV6.out⟩
end Go.Proofs.Ytpccaifhcmcegaa.depgraphBetween
