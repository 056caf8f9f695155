/-
  The walk of DepgraphSorted.
-/
import Derived.Test.YtpccaifhcmcegaaGreatDgXm
import Derived.Test.YtpccaifhcmcegaaGreatHs
import Derived.Test.YtpccaifhcmcegaaGreatSoQ
namespace Go.Proofs.YtpccaifhcmcegaaGreat.depgraphSorted
set_option linter.unusedSimpArgs false
open Go.ChangeShapes Go.WideShapes Go.ChangeAt Go.RowKit
set_option linter.unusedVariables false
set_option maxRecDepth 100000

theorem small_tot {p : Pg} (h : SmallP p) : ∀ d ∈ p.defs, tot d.body ≤ 1500 := fun d hd => (SmallP.bd h d hd).2.2
theorem progAt_one' {N : Nat} {w : World} {a b c d e : Value} {p : Pg} (h : ProgAt N w (.agg #[a, b, c, d, e]) p) : (#[a, b, c, d, e] : Array Value).all (·.oneCell') = true := by
  obtain ⟨sa, sc, ca, cc, pa, pc, da, dc, oa, oc, e, -⟩ := h.open
  simp only [Value.agg.injEq, Array.mk.injEq, List.cons.injEq, and_true] at e
  obtain ⟨rfl, rfl, rfl, rfl, rfl⟩ := e
  simp [Value.oneCell']
set_option maxHeartbeats 32000000 in
theorem walk (w : World) {v : Value} {x : Nat × Pg} (hv : ProgAt x.1 w v x.2) : Calls Tryz.prog 3 #[v] w fun e w' => e = .returned (.bool true) ∧ Below w.heap.size w w' := by
  obtain ⟨N, p⟩ := x
  dsimp only at hv
  have hp := hv
  have HPX := Lib.hid (fun y (hy : Up w y) => hv.up hy)
  have HSMA := Lib.hid (fun y (hy : Up w y) => law_Small N p v y (hv.up hy))
  have HTS := Lib.hid (fun y (hy : Up w y) (h : SmallP p) => p_TopoSort N p v y (hv.up hy) (small_tot h) h.defs)
  have HVL := Lib.hid (fun y (hy : Up w y) (h : SmallP p) => r17_Validate N y v p (hv.up hy) h)
  have HTQ := Lib.hid (fun u y l (h : ProgAt N y u { p with defs := l }) (hs : srt l) (hl : l.length = p.defs.length) (hm : ∀ x ∈ l, x ∈ p.defs) (h2 : SmallP p) => p_TopoSort N { p with defs := l } u y h (fun d hd => small_tot h2 d (hm d hd)) (by show l.length ≤ 40; rw [hl]; exact h2.defs))
  have HEX := Lib.hid (fun y => law_examples y)
  clear hv
  have HPE := Lib.hid (Eq.refl p)
  obtain ⟨P, hP⟩ : ∃ P, p = P := ⟨_, rfl⟩
  rw [hP] at HSMA HTS HVL HTQ HPX hp
  obtain ⟨sa, sc, ca, cc, pa, pc, da, dc, oa, oc, hvv, hs, hcn, hpp, hd, ho⟩ := hp.open
  obtain ⟨sn, hsn⟩ : ∃ q, P.sizes.length = q := ⟨_, rfl⟩
  obtain ⟨cn, hcnn⟩ : ∃ q, P.cons.length = q := ⟨_, rfl⟩
  obtain ⟨pn, hpn⟩ : ∃ q, P.pars.length = q := ⟨_, rfl⟩
  obtain ⟨dn, hdn⟩ : ∃ q, P.defs.length = q := ⟨_, rfl⟩
  obtain ⟨on_, hon⟩ : ∃ q, P.outs.length = q := ⟨_, rfl⟩
  have hdnI : (dn : Int) ≤ 140737488351232 := by have := hd.bytes; omega
  rw [hsn, hcnn, hpn, hdn, hon] at hvv
  subst hvv
  have HSNP := Lib.hid hsn
  have HCNP := Lib.hid hcnn
  have HPNP := Lib.hid hpn
  have HDNP := Lib.hid hdn
  have HONP := Lib.hid hon
  clear hs hcn hpp hd ho hsn hcnn hpn hdn hon hP HPE hp
  have HU0 := Lib.hid ((Up.refl w).alloc (.cells #[.slice sa sn sc, .slice ca cn cc, .slice pa pn pc, .slice da dn dc, .slice oa on_ oc] 27))
  have HB0 := Lib.hid (BoxC.new w 27 #[.slice sa sn sc, .slice ca cn cc, .slice pa pn pc, .slice da dn dc, .slice oa on_ oc])
  have HL0 := Lib.hid (prog_load (g := w.heap.size) (cs := #[.slice sa sn sc, .slice ca cn cc, .slice pa pn pc, .slice da dn dc, .slice oa on_ oc]) rfl HB0.out)
  go_enter Tryz.func3, Tryz.ntmps3
  go_wp2_with (refine st_load HL0.out (by rfl) ?_)
  refine (HSMA.out _ HU0.out).mono ?_
  rintro e' W1 ⟨b, rfl, hy, hsp⟩
  have HV1 := Lib.hid (HU0.out.trans hy)
  have HB1 := Lib.hid (HB0.out.up hy)
  have HSP := Lib.hid hsp
  clear hy hsp HL0 HU0 HB0
  cases b
  · go_wp2_with (go_at_call 5; (with_reducible refine (HEX.out W1).mono ?_); rintro e' W2 ⟨rfl, hy⟩; have HV2 := Lib.hid hy; clear hy)
    go_ret
    exact ⟨rfl, HV1.out.trans HV2.out⟩
  have HSM := Lib.hid (HSP.out rfl)
  have HL1 := Lib.hid (prog_load (g := w.heap.size) (cs := #[.slice sa sn sc, .slice ca cn cc, .slice pa pn pc, .slice da dn dc, .slice oa on_ oc]) rfl HB1.out)
  by_cases hE : (topoF P).2 = 0
  case neg =>
    obtain ⟨h9, hpos⟩ := topoF_err hE
    have HT1 := Lib.hid (HTS.out W1 HV1.out HSM.out)
    have HNE : Hid (srt P.defs → False) := Lib.hid (fun h => hE (by rw [topoF_srt h]))
    obtain ⟨Q, hQ⟩ : ∃ q, (topoF P).1 = q := ⟨_, rfl⟩
    rw [h9, hQ] at HT1
    have hposI : (0 : Int) < dn := by rw [HDNP.out] at hpos; omega
    clear h9 hE hQ hpos
    go_wp2_with (refine st_load HL1.out (by rfl) ?_)
    refine HT1.out.mono ?_
    rintro e' W2 ⟨u, rfl, hy, hp2⟩
    obtain ⟨q0, q1, q2, q3, q4, rfl, -⟩ := id hp2
    have hone := progAt_one' hp2
    have HFL := Lib.hid (run_fill (P := Tryz.prog) prog_info W2 (Z := #[.slice none 0 0, .slice none 0 0, .slice none 0 0, .slice none 0 0, .slice none 0 0]) (cs := #[q0, q1, q2, q3, q4]) rfl rfl hone)
    have HA := Lib.hid (hy.alloc (.cells #[q0, q1, q2, q3, q4] 27))
    have HV3 := Lib.hid (HV1.out.trans HA.out)
    have HB3 := Lib.hid (HB1.out.up HA.out)
    have HL3 := Lib.hid (prog_load (g := w.heap.size) (cs := #[.slice sa sn sc, .slice ca cn cc, .slice pa pn pc, .slice da dn dc, .slice oa on_ oc]) rfl HB3.out)
    clear hy hp2 hone HL1 HT1
    go_wp2_with (first | (refine st_store HFL.out (by rfl) (by rfl) ?_) | (refine st_load HL3.out (by rfl) ?_))
    refine (HVL.out _ HV3.out HSM.out).mono ?_
    rintro e' W4 ⟨ei, ef, rfl, hy, hf⟩
    have HV4 := Lib.hid (HV3.out.trans hy)
    have HB4 := Lib.hid (HB3.out.up hy)
    have hf0 : ¬ ef = 0 := fun h => HNE.out (valid_srt (hf h))
    have e1 : (ef == 0) = false := by simpa using hf0
    have b3 : W4.cell? ⟨w.heap.size, 3, none⟩ = some (.slice da dn dc) := cell_of_row _ _ _ _ _ _ HB4.out
    have bs := HB4.out.lt
    have hd0 : decide ((0 : Int) < dn) = true := decide_eq_true hposI
    clear hy hf hf0 HFL HL3 HNE
    go_wp2_with (go_at_call 5; (with_reducible refine (HEX.out _).mono ?_); rintro e' W5 ⟨rfl, hy⟩; have HV5 := Lib.hid hy; clear hy)
    go_ret
    exact ⟨rfl, HV4.out.trans HV5.out⟩
  case pos =>
  obtain ⟨l, hT, hlen, hsrt, hmem⟩ := topoF_ok hE
  have HT1 := Lib.hid (HTS.out W1 HV1.out HSM.out)
  rw [hT] at HT1
  dsimp only at HT1
  have HLEN : Hid (l.length = dn) := Lib.hid (by rw [hlen]; exact HDNP.out)
  have HSRT := Lib.hid hsrt
  have HMEM := Lib.hid hmem
  have HPLN : Hid (l.length = P.defs.length) := Lib.hid hlen
  have HEQ : Hid (srt P.defs → { P with defs := l } = P) := Lib.hid (fun h => by
    have h1 := topoF_srt h
    rw [hT] at h1
    exact congrArg Prod.fst h1)
  clear hT hlen hsrt hmem hE
  go_wp2_with (refine st_load HL1.out (by rfl) ?_)
  refine HT1.out.mono ?_
  rintro e' W2 ⟨u, rfl, hy, hp2⟩
  obtain ⟨qa, qb, ra, rb, ta, tb, ua, ub, xa, xb, hu, hqs, hqc, hqp, hqd, hqo⟩ := hp2.open
  dsimp only at hu hqs hqc hqp hqd hqo
  rw [HSNP.out, HCNP.out, HPNP.out, HLEN.out, HONP.out] at hu
  subst hu
  rw [HLEN.out] at hqd
  have HQP := Lib.hid hp2
  have HQD := Lib.hid hqd
  have HFL := Lib.hid (run_fill (P := Tryz.prog) prog_info W2 (Z := #[.slice none 0 0, .slice none 0 0, .slice none 0 0, .slice none 0 0, .slice none 0 0]) (cs := #[.slice qa sn qb, .slice ra cn rb, .slice ta pn tb, .slice ua dn ub, .slice xa on_ xb]) rfl rfl (by simp [Value.oneCell']))
  have HA := Lib.hid (hy.alloc (.cells #[.slice qa sn qb, .slice ra cn rb, .slice ta pn tb, .slice ua dn ub, .slice xa on_ xb] 27))
  have HV3 := Lib.hid (HV1.out.trans HA.out)
  have HB3 := Lib.hid (HB1.out.up HA.out)
  have HQ3 := Lib.hid (BoxC.new W2 27 #[.slice qa sn qb, .slice ra cn rb, .slice ta pn tb, .slice ua dn ub, .slice xa on_ xb])
  have HW2 := Lib.hid ((Up.refl W2).alloc (.cells #[.slice qa sn qb, .slice ra cn rb, .slice ta pn tb, .slice ua dn ub, .slice xa on_ xb] 27))
  have HL3 := Lib.hid (prog_load (g := w.heap.size) (cs := #[.slice sa sn sc, .slice ca cn cc, .slice pa pn pc, .slice da dn dc, .slice oa on_ oc]) rfl HB3.out)
  clear hy hp2 hqs hqc hqp hqd hqo HL1 HT1 HV1 HB1
  go_wp2_with (first | (refine st_store HFL.out (by rfl) (by rfl) ?_) | (refine st_load HL3.out (by rfl) ?_))
  refine (HVL.out _ HV3.out HSM.out).mono ?_
  rintro e' W4 ⟨ei, ef, rfl, hy, hf⟩
  have HV4 := Lib.hid (HV3.out.trans hy)
  have HB4 := Lib.hid (HB3.out.up hy)
  have HQ4 := Lib.hid (HQ3.out.up hy)
  have HW4 := Lib.hid (HW2.out.trans hy)
  have HFF := Lib.hid (fun h => HEQ.out (valid_srt (hf h)))
  clear hy hf HFL HL3 HVL HA HB3 HQ3 HW2 HV3 HEQ
  obtain ⟨g3, hg3⟩ : ∃ g, W2.heap.size = g := ⟨_, rfl⟩
  rw [hg3] at HQ4 ⊢
  clear hg3
  obtain ⟨a0, a1, a2, a3, a4⟩ := HB4.out.five
  obtain ⟨b0, b1, b2, b3, b4⟩ := HQ4.out.five
  have asz := HB4.out.lt
  have bsz := HQ4.out.lt
  have hdd : ((dn : Int) == dn) = true := by simp
  have hdd2 : ((dn : Int) != dn) = false := by simp
  by_cases hf0 : ef = 0
  · subst hf0
    have HEQ := Lib.hid (HFF.out rfl)
    clear HFF
    have HPP := Lib.hid (base_Prog N W4 _ _ P (HPX.out _ HV4.out) (by have h := HQP.out.up HW4.out; rw [HEQ.out] at h; exact h))
    go_wp2_with (go_at_call 8; (with_reducible refine HPP.out.mono ?_); rintro e' W5 ⟨rfl, hy⟩; have HV5 := Lib.hid (HV4.out.trans hy); have HW5 := Lib.hid (HW4.out.trans hy); have HB5 := Lib.hid (HB4.out.up hy); have HQ5 := Lib.hid (HQ4.out.up hy); clear hy; obtain ⟨d0, d1, d2, d3, d4⟩ := HB5.out.five; obtain ⟨f0, f1, f2, f3, f4⟩ := HQ5.out.five; have asz5 := HB5.out.lt; have bsz5 := HQ5.out.lt)
    clear HV4 HW4 HB4 HQ4 HPP HEQ d0 d1 d2 d3 d4 f0 f1 f2 f3 f4 asz5 bsz5
    clear a0 a1 a2 a3 a4 b0 b1 b2 b3 b4 asz bsz hdd hdd2
    go_loopw [7] (fun iv y => ∃ i : Nat, iv = .int .i64 i ∧ i ≤ dn ∧ Up w y ∧ Up W2 y ∧ BoxC y w.heap.size 27 #[.slice sa sn sc, .slice ca cn cc, .slice pa pn pc, .slice da dn dc, .slice oa on_ oc] ∧ BoxC y g3 27 #[.slice qa sn qb, .slice ra cn rb, .slice ta pn tb, .slice ua dn ub, .slice xa on_ xb]) (fun iv _ => dn - (intOf iv).toNat)
    case atStart => exact ⟨0, rfl, Nat.zero_le _, HV5.out, HW5.out, HB5.out, HQ5.out⟩
    case round =>
      clear HV5 HW5 HB5 HQ5
      rename World => y
      obtain ⟨i, rfl, hi, hup, hw2, hb, hq⟩ := hrel
      have HVY := Lib.hid hup
      have HWY := Lib.hid hw2
      have HBY := Lib.hid hb
      have HQY := Lib.hid hq
      have b3 : y.cell? ⟨g3, 3, none⟩ = some (.slice ua dn ub) := cell_of_row _ _ _ _ _ _ hq
      have bsz := hq.lt
      clear hup hw2 hb hq
      by_cases hlt : i < dn
      · have hltI : (i : Int) < dn := by omega
        have hi1 : i < l.length := by rw [HLEN.out]; exact hlt
        obtain ⟨g, o, cs, rfl, hg, hcs, hld, -, -, -⟩ := HQD.out.def i hi1
        have HRD := Lib.hid (r20_Reads N l[i] (.agg cs) y (DefAt.up ⟨cs, rfl, hcs⟩ HWY.out) (small_tot HSM.out _ (HMEM.out _ (List.getElem_mem hi1))))
        have HLD := Lib.hid (hld y HWY.out)
        have HGT : Hid (∀ k (hk : k < l.length), i ≤ k → has (readsF l[i].body) l[k].nm = false) := Lib.hid (fun k hk hik => srt_get HSRT.out i k hk hik)
        obtain ⟨R, hR⟩ : ∃ R, readsF l[i].body = R := ⟨_, rfl⟩
        rw [hR] at HRD HGT
        have gs := Nat.lt_of_lt_of_le hg HWY.out.size
        clear hi1 hcs hld hR hg
        go_wp2_with (refine st_load HLD.out (by rfl) ?_)
        refine HRD.out.mono ?_
        rintro e' z ⟨rv, rfl, hz, hrl⟩
        have HVZ := Lib.hid (HVY.out.trans hz)
        have HWZ := Lib.hid (HWY.out.trans hz)
        have HBZ := Lib.hid (HBY.out.up hz)
        have HQZ := Lib.hid (HQY.out.up hz)
        have HRL := Lib.hid hrl.1
        clear hz hrl b3 bsz gs HLD HRD
        go_wp2
        go_loopw [9] (fun kv y => ∃ k : Nat, kv = .int .i64 k ∧ i ≤ k ∧ k ≤ dn ∧ Up w y ∧ Up W2 y ∧ Up z y ∧ BoxC y w.heap.size 27 #[.slice sa sn sc, .slice ca cn cc, .slice pa pn pc, .slice da dn dc, .slice oa on_ oc] ∧ BoxC y g3 27 #[.slice qa sn qb, .slice ra cn rb, .slice ta pn tb, .slice (some ⟨g, o, none⟩) dn ub, .slice xa on_ xb]) (fun kv _ => dn - (intOf kv).toNat)
        case atStart => exact ⟨i, rfl, Nat.le_refl _, hi, HVZ.out, HWZ.out, Up.refl _, HBZ.out, HQZ.out⟩
        case round =>
          clear HVZ HWZ HBZ HQZ
          rename World => y2
          obtain ⟨k, rfl, hik, hk, hup, hw2, hz2, hb, hq⟩ := hrel
          have HVK := Lib.hid hup
          have HWK := Lib.hid hw2
          have HZK := Lib.hid hz2
          have HBK := Lib.hid hb
          have HQK := Lib.hid hq
          have b3 : y2.cell? ⟨g3, 3, none⟩ = some (.slice (some ⟨g, o, none⟩) dn ub) := cell_of_row _ _ _ _ _ _ hq
          have bsz := hq.lt
          clear hup hw2 hz2 hb hq
          by_cases hlk : k < dn
          · have hlkI : (k : Int) < dn := by omega
            have hk1 : k < l.length := by rw [HLEN.out]; exact hlk
            obtain ⟨g', o', cs', e0, hg, -, -, -, -, hnm⟩ := HQD.out.def k hk1
            cases e0
            have c0 := hnm y2 HWK.out
            have gs := Nat.lt_of_lt_of_le hg HWK.out.size
            have HHA := Lib.hid (base_Has l[k].nm R rv y2 (HRL.out.up strR_up HZK.out) false (HGT.out k hk1 hik))
            generalize l[k].nm = nm at *
            clear hk1 hg hnm
            go_wp2_with (go_at_call 10; (with_reducible refine HHA.out.mono ?_); rintro e' x' ⟨rfl, hx'⟩; rw [hx']; clear hx' x')
            go_roundw
            case rel => exact ⟨k + 1, by go_num, by omega, by omega, HVK.out, HWK.out, HZK.out, HBK.out, HQK.out⟩
            case measure => simp [intOf]; omega
          · have hlkI : ¬ (k : Int) < dn := by omega
            go_wp2
            go_roundw
            case rel => exact ⟨i + 1, by go_num, by omega, HVK.out, HWK.out, HBK.out, HQK.out⟩
            case measure => simp [intOf]; omega
      · have hltI : ¬ (i : Int) < dn := by omega
        have HLq := Lib.hid (prog_load (g := g3) (cs := #[.slice qa sn qb, .slice ra cn rb, .slice ta pn tb, .slice ua dn ub, .slice xa on_ xb]) rfl HQY.out)
        have HQPY := Lib.hid (HQP.out.up HWY.out)
        have HT2 := Lib.hid (HTQ.out _ y l HQPY.out HSRT.out HPLN.out HMEM.out HSM.out)
        rw [topoF_srt (p := { P with defs := l }) HSRT.out] at HT2
        dsimp only at HT2
        go_wp2_with (refine st_load HLq.out (by rfl) ?_)
        refine HT2.out.mono ?_
        rintro e' z ⟨u, rfl, hz, hp2⟩
        obtain ⟨q0, q1, q2, q3, q4, rfl, -⟩ := id hp2
        have hone := progAt_one' hp2
        have HFL := Lib.hid (run_fill (P := Tryz.prog) prog_info z (Z := #[.slice none 0 0, .slice none 0 0, .slice none 0 0, .slice none 0 0, .slice none 0 0]) (cs := #[q0, q1, q2, q3, q4]) rfl rfl hone)
        have HA := Lib.hid ((Up.refl z).alloc (.cells #[q0, q1, q2, q3, q4] 27))
        have HN := Lib.hid (BoxC.new z 27 #[q0, q1, q2, q3, q4])
        have HV6 := Lib.hid ((HVY.out.trans hz).trans HA.out)
        have HQ6 := Lib.hid ((HQY.out.up hz).up HA.out)
        have HEQ := Lib.hid (base_Prog N (z.alloc (.cells #[q0, q1, q2, q3, q4] 27)) _ _ { P with defs := l } (hp2.up HA.out) ((HQPY.out.up hz).up HA.out))
        have HLn := Lib.hid (prog_load (cs := #[q0, q1, q2, q3, q4]) rfl HN.out)
        have HLm := Lib.hid (prog_load (g := g3) (cs := #[.slice qa sn qb, .slice ra cn rb, .slice ta pn tb, .slice ua dn ub, .slice xa on_ xb]) rfl HQ6.out)
        clear hz hp2 hone b3 bsz HLq HT2
        go_wp2_with (first
          | (refine st_store HFL.out (by rfl) (by rfl) ?_)
          | (refine st_loadG HLn.out (by kernel_rfl) (by rfl) ?_)
          | (refine st_loadG HLm.out (by kernel_rfl) (by rfl) ?_)
          | (go_at_call 8; (with_reducible refine HEQ.out.mono ?_); rintro e' W5 ⟨rfl, hy⟩; have HV7 := Lib.hid (HV6.out.trans hy); clear hy)
          | (go_at_call 5; (with_reducible refine (HEX.out _).mono ?_); rintro e' W6 ⟨rfl, hy⟩; have HV8 := Lib.hid (HV7.out.trans hy); clear hy))
        go_ret
        exact ⟨rfl, HV8.out⟩
  · have e1 : (ef == 0) = false := by simpa using hf0
    clear HFF hf0
    go_wp2
    have HV5 := HV4
    have HW5 := HW4
    have HB5 := HB4
    have HQ5 := HQ4
    clear HV4 HW4 HB4 HQ4
    clear a0 a1 a2 a3 a4 b0 b1 b2 b3 b4 asz bsz hdd hdd2
    go_loopw [7] (fun iv y => ∃ i : Nat, iv = .int .i64 i ∧ i ≤ dn ∧ Up w y ∧ Up W2 y ∧ BoxC y w.heap.size 27 #[.slice sa sn sc, .slice ca cn cc, .slice pa pn pc, .slice da dn dc, .slice oa on_ oc] ∧ BoxC y g3 27 #[.slice qa sn qb, .slice ra cn rb, .slice ta pn tb, .slice ua dn ub, .slice xa on_ xb]) (fun iv _ => dn - (intOf iv).toNat)
    case atStart => exact ⟨0, rfl, Nat.zero_le _, HV5.out, HW5.out, HB5.out, HQ5.out⟩
    case round =>
      clear HV5 HW5 HB5 HQ5
      rename World => y
      obtain ⟨i, rfl, hi, hup, hw2, hb, hq⟩ := hrel
      have HVY := Lib.hid hup
      have HWY := Lib.hid hw2
      have HBY := Lib.hid hb
      have HQY := Lib.hid hq
      have b3 : y.cell? ⟨g3, 3, none⟩ = some (.slice ua dn ub) := cell_of_row _ _ _ _ _ _ hq
      have bsz := hq.lt
      clear hup hw2 hb hq
      by_cases hlt : i < dn
      · have hltI : (i : Int) < dn := by omega
        have hi1 : i < l.length := by rw [HLEN.out]; exact hlt
        obtain ⟨g, o, cs, rfl, hg, hcs, hld, -, -, -⟩ := HQD.out.def i hi1
        have HRD := Lib.hid (r20_Reads N l[i] (.agg cs) y (DefAt.up ⟨cs, rfl, hcs⟩ HWY.out) (small_tot HSM.out _ (HMEM.out _ (List.getElem_mem hi1))))
        have HLD := Lib.hid (hld y HWY.out)
        have HGT : Hid (∀ k (hk : k < l.length), i ≤ k → has (readsF l[i].body) l[k].nm = false) := Lib.hid (fun k hk hik => srt_get HSRT.out i k hk hik)
        obtain ⟨R, hR⟩ : ∃ R, readsF l[i].body = R := ⟨_, rfl⟩
        rw [hR] at HRD HGT
        have gs := Nat.lt_of_lt_of_le hg HWY.out.size
        clear hi1 hcs hld hR hg
        go_wp2_with (refine st_load HLD.out (by rfl) ?_)
        refine HRD.out.mono ?_
        rintro e' z ⟨rv, rfl, hz, hrl⟩
        have HVZ := Lib.hid (HVY.out.trans hz)
        have HWZ := Lib.hid (HWY.out.trans hz)
        have HBZ := Lib.hid (HBY.out.up hz)
        have HQZ := Lib.hid (HQY.out.up hz)
        have HRL := Lib.hid hrl.1
        clear hz hrl b3 bsz gs HLD HRD
        go_wp2
        go_loopw [9] (fun kv y => ∃ k : Nat, kv = .int .i64 k ∧ i ≤ k ∧ k ≤ dn ∧ Up w y ∧ Up W2 y ∧ Up z y ∧ BoxC y w.heap.size 27 #[.slice sa sn sc, .slice ca cn cc, .slice pa pn pc, .slice da dn dc, .slice oa on_ oc] ∧ BoxC y g3 27 #[.slice qa sn qb, .slice ra cn rb, .slice ta pn tb, .slice (some ⟨g, o, none⟩) dn ub, .slice xa on_ xb]) (fun kv _ => dn - (intOf kv).toNat)
        case atStart => exact ⟨i, rfl, Nat.le_refl _, hi, HVZ.out, HWZ.out, Up.refl _, HBZ.out, HQZ.out⟩
        case round =>
          clear HVZ HWZ HBZ HQZ
          rename World => y2
          obtain ⟨k, rfl, hik, hk, hup, hw2, hz2, hb, hq⟩ := hrel
          have HVK := Lib.hid hup
          have HWK := Lib.hid hw2
          have HZK := Lib.hid hz2
          have HBK := Lib.hid hb
          have HQK := Lib.hid hq
          have b3 : y2.cell? ⟨g3, 3, none⟩ = some (.slice (some ⟨g, o, none⟩) dn ub) := cell_of_row _ _ _ _ _ _ hq
          have bsz := hq.lt
          clear hup hw2 hz2 hb hq
          by_cases hlk : k < dn
          · have hlkI : (k : Int) < dn := by omega
            have hk1 : k < l.length := by rw [HLEN.out]; exact hlk
            obtain ⟨g', o', cs', e0, hg, -, -, -, -, hnm⟩ := HQD.out.def k hk1
            cases e0
            have c0 := hnm y2 HWK.out
            have gs := Nat.lt_of_lt_of_le hg HWK.out.size
            have HHA := Lib.hid (base_Has l[k].nm R rv y2 (HRL.out.up strR_up HZK.out) false (HGT.out k hk1 hik))
            generalize l[k].nm = nm at *
            clear hk1 hg hnm
            go_wp2_with (go_at_call 10; (with_reducible refine HHA.out.mono ?_); rintro e' x' ⟨rfl, hx'⟩; rw [hx']; clear hx' x')
            go_roundw
            case rel => exact ⟨k + 1, by go_num, by omega, by omega, HVK.out, HWK.out, HZK.out, HBK.out, HQK.out⟩
            case measure => simp [intOf]; omega
          · have hlkI : ¬ (k : Int) < dn := by omega
            go_wp2
            go_roundw
            case rel => exact ⟨i + 1, by go_num, by omega, HVK.out, HWK.out, HBK.out, HQK.out⟩
            case measure => simp [intOf]; omega
      · have hltI : ¬ (i : Int) < dn := by omega
        have HLq := Lib.hid (prog_load (g := g3) (cs := #[.slice qa sn qb, .slice ra cn rb, .slice ta pn tb, .slice ua dn ub, .slice xa on_ xb]) rfl HQY.out)
        have HQPY := Lib.hid (HQP.out.up HWY.out)
        have HT2 := Lib.hid (HTQ.out _ y l HQPY.out HSRT.out HPLN.out HMEM.out HSM.out)
        rw [topoF_srt (p := { P with defs := l }) HSRT.out] at HT2
        dsimp only at HT2
        go_wp2_with (refine st_load HLq.out (by rfl) ?_)
        refine HT2.out.mono ?_
        rintro e' z ⟨u, rfl, hz, hp2⟩
        obtain ⟨q0, q1, q2, q3, q4, rfl, -⟩ := id hp2
        have hone := progAt_one' hp2
        have HFL := Lib.hid (run_fill (P := Tryz.prog) prog_info z (Z := #[.slice none 0 0, .slice none 0 0, .slice none 0 0, .slice none 0 0, .slice none 0 0]) (cs := #[q0, q1, q2, q3, q4]) rfl rfl hone)
        have HA := Lib.hid ((Up.refl z).alloc (.cells #[q0, q1, q2, q3, q4] 27))
        have HN := Lib.hid (BoxC.new z 27 #[q0, q1, q2, q3, q4])
        have HV6 := Lib.hid ((HVY.out.trans hz).trans HA.out)
        have HQ6 := Lib.hid ((HQY.out.up hz).up HA.out)
        have HEQ := Lib.hid (base_Prog N (z.alloc (.cells #[q0, q1, q2, q3, q4] 27)) _ _ { P with defs := l } (hp2.up HA.out) ((HQPY.out.up hz).up HA.out))
        have HLn := Lib.hid (prog_load (cs := #[q0, q1, q2, q3, q4]) rfl HN.out)
        have HLm := Lib.hid (prog_load (g := g3) (cs := #[.slice qa sn qb, .slice ra cn rb, .slice ta pn tb, .slice ua dn ub, .slice xa on_ xb]) rfl HQ6.out)
        clear hz hp2 hone b3 bsz HLq HT2
        go_wp2_with (first
          | (refine st_store HFL.out (by rfl) (by rfl) ?_)
          | (refine st_loadG HLn.out (by kernel_rfl) (by rfl) ?_)
          | (refine st_loadG HLm.out (by kernel_rfl) (by rfl) ?_)
          | (go_at_call 8; (with_reducible refine HEQ.out.mono ?_); rintro e' W5 ⟨rfl, hy⟩; have HV7 := Lib.hid (HV6.out.trans hy); clear hy)
          | (go_at_call 5; (with_reducible refine (HEX.out _).mono ?_); rintro e' W6 ⟨rfl, hy⟩; have HV8 := Lib.hid (HV7.out.trans hy); clear hy))
        go_ret
        exact ⟨rfl, HV8.out⟩
end Go.Proofs.YtpccaifhcmcegaaGreat.depgraphSorted
