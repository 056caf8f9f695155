/-
  reads, Consumers and names of the program. Printed by mkDgJ.py.
-/
import Derived.Test.YtpccaifhcmcegaaGreatHh
import Derived.Test.YtpccaifhcmcegaaGreatHf

import Derived.Test.YtpccaifhcmcegaaGreatHi
namespace Go.Proofs.YtpccaifhcmcegaaGreat
set_option linter.unusedSimpArgs false
open Go.ChangeShapes Go.WideShapes Go.ChangeAt Go.RowKit
set_option linter.unusedVariables false
set_option maxRecDepth 100000

/-- Some name of a list is read. -/
def rdsB (l R : List ByteArray) : Bool := R.any fun x => has l x
theorem rds_drop {l R : List ByteArray} {i n : Nat} (hn : R.length = n) (hi : i < n) : rdsB l (R.drop i) = (has l (R[i]'(by omega)) || rdsB l (R.drop (i + 1))) := by
  rw [drop_eq hn hi]; rfl
theorem rds_one (s : ByteArray) (R : List ByteArray) : rdsB [s] R = has R s := by
  unfold rdsB has
  congr 1
  funext x
  by_cases e : x = s <;> simp [e, eq_comm]
set_option maxHeartbeats 8000000 in
theorem p_reads (N : Nat) (b n : Nat) (l : List ByteArray) (d : Df) (v : Value) (w : World) (hs : SetAt w b n l) (hv : DefAt N w v d) (ht : tot d.body ≤ 1500) (r : Bool) (hr : rdsB l (readsF d.body) = r) :
    Calls Tryz.prog 21 #[.map (some b), v] w fun e w' => e = .returned (.bool r) ∧ Up w w' := by
  obtain ⟨cs, rfl, hd⟩ := hv
  have HU0 : Hid (Up w (w.alloc (.cells cs 50))) := Lib.hid ((Up.refl w).alloc _)
  have HLD := Lib.hid <| run_ex hd.body.1 ((BoxC.new w 50 cs).sub 9 13)
  have HRD := Lib.hid (ex_Reads N d.body _ _ (hd.body.ex.up HU0.out) ht)
  generalize cs.extract 9 (9 + 13) = es at *
  have HS := Lib.hid hs
  obtain ⟨R, hR⟩ : ∃ R, readsF d.body = R := ⟨_, rfl⟩
  rw [hR] at HRD hr
  have HR0 : Hid (rdsB l (R.drop 0) = r) := Lib.hid hr
  obtain ⟨m, hm⟩ : ∃ m, R.length = m := ⟨_, rfl⟩
  have HM := Lib.hid hm
  clear hd ht hs hR hr hm
  go_enter Tryz.func21, Tryz.ntmps21
  go_upto_region 2 with (first
    | (refine st_load HLD.out (by rfl) ?_)
    | (go_at_call 32; (with_reducible refine HRD.out.mono ?_); rintro e' y ⟨u, rfl, hy, hu⟩; obtain ⟨ra, rc, rfl, -⟩ := hu.1.shape; have hml : R.length ≤ 9223372036854775807 := hu.1.max; rw [HM.out] at hu hml ⊢; have hmI : (m : Int) ≤ 9223372036854775807 := (by omega); have HY := Lib.hid (HU0.out.trans hy); have HL := Lib.hid hu.1; clear hy hu hml))
  go_loopw [11] (fun iv wr => ∃ i : Nat, iv = .int .i64 i ∧ i ≤ m ∧ wr = y ∧ rdsB l (R.drop i) = r) (fun iv _ => m - (intOf iv).toNat)
  case atStart => exact ⟨0, rfl, Nat.zero_le _, rfl, HR0.out⟩
  case round =>
    obtain ⟨i, rfl, hi, rfl, hP⟩ := hrel
    have HP := Lib.hid hP
    clear hP HR0
    by_cases hlt : i < m
    · have hltI : (i : Int) < m := by omega
      obtain ⟨g, o, rfl, hg, hsz, hc⟩ := HL.out.txt i (by rw [HM.out]; exact hlt)
      have HT := Lib.hid (rds_drop (l := l) HM.out hlt)
      have hc1 := hc _ (Up.refl _)
      obtain ⟨x, hx⟩ : ∃ x, R[i]'(by rw [HM.out]; exact hlt) = x := ⟨_, rfl⟩
      rw [hx] at hsz hc1
      have HT : Hid (rdsB l (R.drop i) = (has l x || rdsB l (R.drop (i + 1)))) := Lib.hid (by rw [← hx]; exact HT.out)
      have HSZ := Lib.hid hsz
      clear hx hsz hc
      obtain ⟨b1, hb⟩ : ∃ b, has l x = b := ⟨_, rfl⟩
      have HB := Lib.hid hb
      cases b1
      · have HA : Hid (rdsB l (R.drop (i + 1)) = r) := Lib.hid (by have h := HP.out; rw [HT.out, HB.out, Bool.false_or] at h; exact h)
        clear hb
        go_wp2_with (refine st_look (HS.out.up HY.out) HSZ.out (by rfl) (by rfl) ?_; rw [HB.out])
        go_roundw
        case rel => exact ⟨i + 1, by go_num, by omega, (by first | rfl | trivial), HA.out⟩
        case measure => simp [intOf]; omega
      · have HA : Hid (r = true) := Lib.hid (by have h := HP.out; rw [HT.out, HB.out, Bool.true_or] at h; exact h.symm)
        clear hb
        go_wp2_with (refine st_look (HS.out.up HY.out) HSZ.out (by rfl) (by rfl) ?_; rw [HB.out])
        go_ret
        exact ⟨by rw [HA.out]; rfl, HY.out⟩
    · obtain rfl : m = i := by omega
      have HA : Hid (r = false) := Lib.hid (by have h := HP.out; rw [List.drop_of_length_le (by rw [HM.out]; exact Nat.le_refl _)] at h; exact h.symm)
      go_wp2
      go_ret
      exact ⟨by rw [HA.out]; rfl, HY.out⟩

/-- The names of the definitions that read a name, as they come. -/
def consL (l : List Df) (s : ByteArray) : List ByteArray := (l.filter (rdB s)).map (·.nm)
theorem consL_take {l : List Df} {s : ByteArray} {i n : Nat} (hn : l.length = n) (hi : i < n) : consL (l.take (i + 1)) s = if rdB s (l[i]'(by omega)) = true then consL (l.take i) s ++ [(l[i]'(by omega)).nm] else consL (l.take i) s := by
  subst hn
  unfold consL
  rw [List.take_succ_eq_append_getElem hi, List.filter_append, List.map_append]
  cases h : rdB s l[i]
  · rw [List.filter_cons_of_neg (by rw [h]; decide)]; simp
  · rw [List.filter_cons_of_pos h]; rfl
theorem consL_len (l : List Df) (s : ByteArray) : (consL l s).length ≤ l.length := by
  unfold consL
  rw [List.length_map]
  exact List.length_filter_le _ _
theorem par_i : (Tryz.prog.info? 55).map (·.size) = some 7 := by kernel_rfl
theorem run_par {w : World} {g o : Nat} {cs : Array Value} (hs : cs.size = 7) (hr : w.rangeAt g o cs.toList) : (Instr.loadAt 55 (.pointer (some ⟨g, o, none⟩))).run Tryz.prog w = .ok (.agg cs) w :=
  run_cs Tryz.underlying55 rfl par_i hs hr

set_option maxHeartbeats 16000000 in
theorem p_Consumers (N : Nat) (p : Pg) (v : Value) (s : ByteArray) (w : World) (hv : ProgAt N w v p) (hs : s.size ≤ maxLen) (hb : ∀ d ∈ p.defs, tot d.body ≤ 1500) (hsm : p.defs.length ≤ 40) :
    Calls Tryz.prog 16 #[v, .string s] w fun e w' => ∃ u, e = .returned u ∧ Up w w' ∧ NewS w w' u (consF p.defs s) := by
  have HSS0 := Lib.hid hs
  clear hs
  obtain ⟨sa, sc, ca, cc, pa, pc, da, dc, oa, oc, rfl, hs, hcn, hp, hd, ho⟩ := hv.open
  obtain ⟨sizes, cons, pars, defs, outs⟩ := p
  dsimp only at *
  obtain ⟨sn, hsn⟩ : ∃ q, sizes.length = q := ⟨_, rfl⟩
  obtain ⟨cn, hcnn⟩ : ∃ q, cons.length = q := ⟨_, rfl⟩
  obtain ⟨pn, hpn⟩ : ∃ q, pars.length = q := ⟨_, rfl⟩
  obtain ⟨dn, hdn⟩ : ∃ q, defs.length = q := ⟨_, rfl⟩
  obtain ⟨on_, hon⟩ : ∃ q, outs.length = q := ⟨_, rfl⟩
  rw [hsn] at hs hv ⊢
  rw [hcnn] at hcn hv ⊢
  rw [hpn] at hp hv ⊢
  rw [hdn] at hd hv ⊢
  rw [hon] at ho hv ⊢
  have hdI : (dn : Int) ≤ 140737488351232 := by have := hd.bytes; rw [hdn] at this; omega
  have hpI : (pn : Int) ≤ 140737488351232 := by have := hp.bytes; rw [hpn] at this; omega
  have HV := Lib.hid hv
  have HS := Lib.hid hs
  have HC := Lib.hid hcn
  have HP := Lib.hid hp
  have HD := Lib.hid hd
  have HO := Lib.hid ho
  have HPN := Lib.hid hpn
  have HDN := Lib.hid hdn
  have HON := Lib.hid hon
  clear hs hcn hp hd ho hsn hcnn hpn hdn hon hv
  clear HS
  have HS := HSS0
  clear HSS0
  have HBT := Lib.hid hb
  have HSM : Hid (dn ≤ 40) := Lib.hid (by rw [← HDN.out]; exact hsm)
  clear hb hsm
  have HU0 : Hid (Up w (w.alloc (.cells #[.slice sa sn sc, .slice ca cn cc, .slice pa pn pc, .slice da dn dc, .slice oa on_ oc] 27))) := Lib.hid ((Up.refl w).alloc _)
  have HB0 := Lib.hid (BoxC.new w 27 #[.slice sa sn sc, .slice ca cn cc, .slice pa pn pc, .slice da dn dc, .slice oa on_ oc])
  have hmm := @run_makeMap Tryz.prog
  go_enter Tryz.func16, Tryz.ntmps16
  go_wp2
  go_loopw [5, 11] (fun ov iv wr => ∃ i : Nat, iv = .int .i64 i ∧ i ≤ dn ∧ Up w wr ∧ BoxC wr w.heap.size 27 #[.slice sa sn sc, .slice ca cn cc, .slice pa pn pc, .slice da dn dc, .slice oa on_ oc] ∧ OwnS (w.heap.size + 1) wr ov (consL (defs.take i) s)) (fun _ iv _ => dn - (intOf iv).toNat)
  case atStart => exact ⟨0, rfl, Nat.zero_le _, HU0.out, HB0.out, OwnL.nil⟩
  case round =>
    rename World => wr
    obtain ⟨i, rfl, hi, hup, hbx, hrow⟩ := hrel
    have HU := Lib.hid hup
    have HB := Lib.hid hbx
    have bs : w.heap.size < wr.heap.size := hbx.lt
    obtain ⟨U, hU⟩ : ∃ U, consL (defs.take i) s = U := ⟨_, rfl⟩
    have HUE := Lib.hid hU
    have HLN : Hid (U.length ≤ 40) := Lib.hid (by
      rw [← hU]
      have h1 := consL_len (defs.take i) s
      rw [List.length_take] at h1
      have h3 := HSM.out
      omega)
    rw [hU] at hrow
    obtain ⟨va, vc, rfl⟩ := hrow.shape
    have HR := Lib.hid hrow
    obtain ⟨m, hm⟩ : ∃ m, U.length = m := ⟨_, rfl⟩
    rw [hm] at HR HLN ⊢
    have HM := Lib.hid hm
    clear hup hbx hrow hU hm HU0 HB0
    by_cases hlt : i < dn
    · have hltI : (i : Int) < dn := by omega
      have hi1 : i < defs.length := by rw [HDN.out]; exact hlt
      obtain ⟨g, o, cs, rfl, hg, hcs, hld, h0, hsz, hc⟩ := HD.out.def i hi1
      have HT := Lib.hid (consL_take (s := s) HDN.out hlt)
      rw [HUE.out] at HT
      have HTB := Lib.hid (HBT.out _ (List.getElem_mem hi1))
      obtain ⟨d, hx⟩ : ∃ d, defs[i] = d := ⟨_, rfl⟩
      have HT : Hid (consL (defs.take (i + 1)) s = if rdB s d = true then U ++ [d.nm] else U) := Lib.hid (by rw [← hx]; exact HT.out)
      rw [hx] at hcs hsz h0 HTB
      have HCS := Lib.hid hcs
      have HLD := Lib.hid (hld wr HU.out)
      have HSZ := Lib.hid hsz
      obtain ⟨x, hnm⟩ : ∃ x, d.nm = x := ⟨_, rfl⟩
      rw [hnm] at HT HSZ h0
      have HCS0 := Lib.hid h0
      have hg' := Nat.lt_of_lt_of_le hg HU.out.size
      have HFL := Lib.hid (run_fill (P := Tryz.prog) (k := 22) def_i wr (Z := #[.string ByteArray.empty, .int .i64 0, .int .i64 0, .int .i64 0, .int .i64 0, .int .i64 0, .slice none 0 0, .slice none 0 0, .int .i64 0, .int .i64 0, .string ByteArray.empty, .int .i64 0, .int .i64 0, .int .i64 0, .int .i64 0, .int .i64 0, .int .i64 0, .int .i64 0, .int .i64 0, .slice none 0 0, .slice none 0 0, .slice none 0 0]) (cs := cs) rfl hcs.1 (hcs.one (defR_k N)))
      have HBD := Lib.hid (BoxC.new wr 50 cs)
      have HS0 : Hid (SetAt ((wr.alloc (.cells cs 50)).alloc (.map #[] 0)) (wr.heap.size + 1) 0 []) := Lib.hid (by have h := SetAt.made (wr.alloc (.cells cs 50)); rw [World.size_alloc] at h; exact h)
      obtain ⟨b1, hb1⟩ : ∃ b, rdB s d = b := ⟨_, rfl⟩
      have HT1 := Lib.hid hb1
      have HB1 : Hid (rdsB [s] (readsF d.body) = b1) := Lib.hid (by rw [rds_one]; exact hb1)
      clear hx hsz hc hld hnm hcs hg hb1 h0 hi1
      cases b1
      · have HA : Hid (consL (defs.take (i + 1)) s = U) := Lib.hid (by rw [HT.out, HT1.out]; rfl)
        obtain ⟨w3, hmu, h1, h2⟩ := HS0.out.put HS.out (by decide)
        have HSS := Lib.hid h1
        have hup3 : Up wr w3 := ((((Up.refl wr).alloc _).alloc _).grown' h2 (fun k e => by cases e; omega))
        have hu3 := HU.out.trans hup3
        have HU3 := Lib.hid hu3
        have HBX := Lib.hid ((HBD.out.up ((Up.refl _).alloc (.map #[] 0))).kept h2 (fun e => by have := Option.some.inj e; omega))
        have HLD2 := Lib.hid (run_def HCS.out.1 HBX.out.range)
        have HRD := Lib.hid (p_reads N _ _ _ d _ w3 HSS.out ⟨cs, rfl, HCS.out.up (defR_k N) hu3⟩ HTB.out false HB1.out)
        have HUW := Lib.hid hup3
        clear h1 h2 hup3 hu3
        go_wp2_with (first
        | (refine st_load HLD.out (by rfl) ?_)
        | (refine st_store HFL.out (by rfl) (by rfl) ?_)
        | (refine st_load HLD2.out (by rfl) ?_)
        | (go_at_call 21; (with_reducible refine HRD.out.mono ?_); rintro e' y ⟨rfl, hy⟩; have HUY := Lib.hid (HU3.out.trans hy); have hbY := HBX.out.up hy; have d0 := hbY.at HCS0.out (by rw [HCS.out.1]; decide); have bsy := hbY.lt; have HRY := Lib.hid (OwnL.up (fun _ _ _ _ h _ => h) HR.out (HUW.out.trans hy)); have HBY := Lib.hid (HB.out.up (HUW.out.trans hy)); clear hy hbY)
        | (at_builtin; refine st_app (mm := 1) rowT_str strQ_one HM.out (by rfl) (H := OwnL.up (fun _ _ _ _ h _ => h) HRY.out ((Up.refl _).alloc _)) (S := LsAt.one_str _ HSZ.out) (by have := HLN.out; omega) (by decide) (by have := HUY.out.size; simp only [World.size_alloc]; omega) (by rfl) (by rfl) ?_; intro ua uc w2 h1 h2 h3; have HR2 := Lib.hid h1; have HG2 := Lib.hid h2; clear h1 h2 h3))
        go_roundw
        case rel => exact ⟨i + 1, by go_num, by omega, HUY.out, HBY.out, by rw [HA.out]; exact HRY.out⟩
        case measure => simp [intOf]; omega
      · have HA : Hid (consL (defs.take (i + 1)) s = U ++ [x]) := Lib.hid (by rw [HT.out, HT1.out, if_pos rfl])
        obtain ⟨w3, hmu, h1, h2⟩ := HS0.out.put HS.out (by decide)
        have HSS := Lib.hid h1
        have hup3 : Up wr w3 := ((((Up.refl wr).alloc _).alloc _).grown' h2 (fun k e => by cases e; omega))
        have hu3 := HU.out.trans hup3
        have HU3 := Lib.hid hu3
        have HBX := Lib.hid ((HBD.out.up ((Up.refl _).alloc (.map #[] 0))).kept h2 (fun e => by have := Option.some.inj e; omega))
        have HLD2 := Lib.hid (run_def HCS.out.1 HBX.out.range)
        have HRD := Lib.hid (p_reads N _ _ _ d _ w3 HSS.out ⟨cs, rfl, HCS.out.up (defR_k N) hu3⟩ HTB.out true HB1.out)
        have HUW := Lib.hid hup3
        clear h1 h2 hup3 hu3
        go_wp2_with (first
        | (refine st_load HLD.out (by rfl) ?_)
        | (refine st_store HFL.out (by rfl) (by rfl) ?_)
        | (refine st_load HLD2.out (by rfl) ?_)
        | (go_at_call 21; (with_reducible refine HRD.out.mono ?_); rintro e' y ⟨rfl, hy⟩; have HUY := Lib.hid (HU3.out.trans hy); have hbY := HBX.out.up hy; have d0 := hbY.at HCS0.out (by rw [HCS.out.1]; decide); have bsy := hbY.lt; have HRY := Lib.hid (OwnL.up (fun _ _ _ _ h _ => h) HR.out (HUW.out.trans hy)); have HBY := Lib.hid (HB.out.up (HUW.out.trans hy)); clear hy hbY)
        | (at_builtin; refine st_app (mm := 1) rowT_str strQ_one HM.out (by rfl) (H := OwnL.up (fun _ _ _ _ h _ => h) HRY.out ((Up.refl _).alloc _)) (S := LsAt.one_str _ HSZ.out) (by have := HLN.out; omega) (by decide) (by have := HUY.out.size; simp only [World.size_alloc]; omega) (by rfl) (by rfl) ?_; intro ua uc w2 h1 h2 h3; have HR2 := Lib.hid h1; have HG2 := Lib.hid h2; clear h1 h2 h3))
        go_roundw
        case rel =>
          refine ⟨i + 1, by go_num, by omega, ((HUY.out.alloc _).grown' HG2.out fun k e => by have := HR.out.base k e; omega), (HBY.out.up ((Up.refl _).alloc _)).kept HG2.out (fun e => by have := HR.out.base _ e.symm; omega), ?_⟩
          rw [HA.out]; exact HR2.out
        case measure => simp [intOf]; omega
    · obtain rfl : dn = i := by omega
      have HTK : Hid (defs.take dn = defs) := Lib.hid (List.take_of_length_le (by rw [HDN.out]; exact Nat.le_refl _))
      rw [HTK.out] at HUE
      have HLS : Hid (LsAt 1 16 strR wr (.slice va m vc) U) := Lib.hid (by rw [← HM.out] at HR ⊢; exact OwnL.ls HR.out (by decide) (by have := HLN.out; have := HM.out; omega))
      have HUQ := Lib.hid (dg_unique _ U wr HLS.out (by have := HLN.out; have := HM.out; omega))
      go_wp2_with (go_at_call 33; (with_reducible refine HUQ.out.mono ?_); rintro e' y ⟨u, rfl, hy, hu⟩; have HY := Lib.hid (HU.out.trans hy); have HL := Lib.hid hu; clear hy hu)
      go_ret
      refine ⟨_, rfl, HY.out, ?_⟩
      have e0 : consF defs s = uniq U := by rw [← HUE.out]; rfl
      dsimp only
      rw [e0]
      exact ⟨HL.out.1, HL.out.2.mono HU.out.size⟩

set_option maxHeartbeats 16000000 in
theorem p_names (N : Nat) (p : Pg) (v : Value) (w : World) (hv : ProgAt N w v p) (hsm : p.pars.length ≤ 40 ∧ p.defs.length ≤ 40) :
    Calls Tryz.prog 34 #[v] w fun e w' => ∃ u, e = .returned u ∧ Up w w' ∧ NewS w w' u (ordF p) := by
  obtain ⟨sa, sc, ca, cc, pa, pc, da, dc, oa, oc, rfl, hs, hcn, hp, hd, ho⟩ := hv.open
  obtain ⟨sizes, cons, pars, defs, outs⟩ := p
  dsimp only at *
  obtain ⟨sn, hsn⟩ : ∃ q, sizes.length = q := ⟨_, rfl⟩
  obtain ⟨cn, hcnn⟩ : ∃ q, cons.length = q := ⟨_, rfl⟩
  obtain ⟨pn, hpn⟩ : ∃ q, pars.length = q := ⟨_, rfl⟩
  obtain ⟨dn, hdn⟩ : ∃ q, defs.length = q := ⟨_, rfl⟩
  obtain ⟨on_, hon⟩ : ∃ q, outs.length = q := ⟨_, rfl⟩
  rw [hsn] at hs hv ⊢
  rw [hcnn] at hcn hv ⊢
  rw [hpn] at hp hv ⊢
  rw [hdn] at hd hv ⊢
  rw [hon] at ho hv ⊢
  have hdI : (dn : Int) ≤ 140737488351232 := by have := hd.bytes; rw [hdn] at this; omega
  have hpI : (pn : Int) ≤ 140737488351232 := by have := hp.bytes; rw [hpn] at this; omega
  have HV := Lib.hid hv
  have HS := Lib.hid hs
  have HC := Lib.hid hcn
  have HP := Lib.hid hp
  have HD := Lib.hid hd
  have HO := Lib.hid ho
  have HPN := Lib.hid hpn
  have HDN := Lib.hid hdn
  have HON := Lib.hid hon
  clear hs hcn hp hd ho hsn hcnn hpn hdn hon hv

  have HSM : Hid (pn ≤ 40 ∧ dn ≤ 40) := Lib.hid (by rw [← HPN.out, ← HDN.out]; exact hsm)
  have HORD : Hid (ordF ⟨sizes, cons, pars, defs, outs⟩ = uniq (pars.map (fun x : Par => x.1) ++ defs.map (fun x : Df => x.nm))) := Lib.hid (by unfold ordF uniq; rw [List.foldl_append])
  obtain ⟨O, hO⟩ : ∃ O, ordF ⟨sizes, cons, pars, defs, outs⟩ = O := ⟨_, rfl⟩
  rw [hO] at HORD ⊢
  clear hsm hO
  have HU0 : Hid (Up w (w.alloc (.cells #[.slice sa sn sc, .slice ca cn cc, .slice pa pn pc, .slice da dn dc, .slice oa on_ oc] 27))) := Lib.hid ((Up.refl w).alloc _)
  have HB0 := Lib.hid (BoxC.new w 27 #[.slice sa sn sc, .slice ca cn cc, .slice pa pn pc, .slice da dn dc, .slice oa on_ oc])
  go_enter Tryz.func34, Tryz.ntmps34
  go_wp2
  go_loopw [3, 11] (fun ov iv wr => ∃ i : Nat, iv = .int .i64 i ∧ i ≤ pn ∧ Up w wr ∧ BoxC wr w.heap.size 27 #[.slice sa sn sc, .slice ca cn cc, .slice pa pn pc, .slice da dn dc, .slice oa on_ oc] ∧ OwnS (w.heap.size + 1) wr ov ((pars.take i).map (fun x : Par => x.1))) (fun _ iv _ => pn - (intOf iv).toNat)
  case atStart => exact ⟨0, rfl, Nat.zero_le _, HU0.out, HB0.out, OwnL.nil⟩
  case round =>
    rename World => wr
    obtain ⟨i, rfl, hi, hup, hbx, hrow⟩ := hrel
    have HU := Lib.hid hup
    have HB := Lib.hid hbx
    have b3 : wr.cell? ⟨w.heap.size, 3, none⟩ = some (.slice da dn dc) := cell_of_row _ _ _ _ _ _ hbx
    have bs : w.heap.size < wr.heap.size := hbx.lt
    obtain ⟨U, hU⟩ : ∃ U, ((pars.take i).map (fun x : Par => x.1)) = U := ⟨_, rfl⟩
    have HUE := Lib.hid hU
    have HLN : Hid (U.length ≤ 80) := Lib.hid (by
      rw [← hU]
      rw [List.length_map, List.length_take]
      have h3 := HSM.out
      omega)
    rw [hU] at hrow
    obtain ⟨va, vc, rfl⟩ := hrow.shape
    have HR := Lib.hid hrow
    obtain ⟨m, hm⟩ : ∃ m, U.length = m := ⟨_, rfl⟩
    rw [hm] at HR HLN ⊢
    have HM := Lib.hid hm
    clear hup hbx hrow hU hm
    by_cases hlt : i < pn
    · have hltI : (i : Int) < pn := by omega
      have hi1 : i < pars.length := by rw [HPN.out]; exact hlt
      obtain ⟨g, o, cs, rfl, hg, hcs, hld, h0, hsz, hc⟩ := HP.out.par i hi1
      have HT : Hid (((pars.take (i + 1)).map (fun x : Par => x.1)) = U ++ [(fun x : Par => x.1) pars[i]]) := Lib.hid (by rw [← HUE.out, List.take_succ_eq_append_getElem hi1, List.map_append]; rfl)
      have HLD := Lib.hid (run_par hcs.1 (hld wr HU.out))
      obtain ⟨x, hx⟩ : ∃ x, (fun x : Par => x.1) pars[i] = x := ⟨_, rfl⟩
      have HSZ : Hid (x.size ≤ maxLen) := Lib.hid (by rw [← hx]; exact hsz)
      have h0n : cs.getD 0 undef = .string x := by rw [← hx]; exact h0
      rw [hx] at HT
      have hg' := Nat.lt_of_lt_of_le hg HU.out.size
      have HFL := Lib.hid (run_fill (P := Tryz.prog) (k := 7) par_i wr (Z := #[.string ByteArray.empty, .int .i64 0, .int .i64 0, .int .i64 0, .int .i64 0, .int .i64 0, .slice none 0 0]) (cs := cs) rfl hcs.1 (hcs.one parR_k))
      have d0 := (BoxC.new wr 55 cs).at h0n (by rw [hcs.1]; decide)
      clear hx hsz hc hld hcs hg h0 h0n hi1
      have HS1 : Hid (LsAt 1 16 (fun _ => strQ) ((wr.alloc (.cells cs 55)).alloc (.cells #[.string x] 9)) (.slice (some ⟨wr.heap.size + 1, 0, none⟩) 1 1) [x]) := Lib.hid (by have h := LsAt.one_str (wr.alloc (.cells cs 55)) HSZ.out; rw [World.size_alloc] at h; exact h)
      go_wp2_with (first
        | (refine st_load HLD.out (by rfl) ?_)
        | (refine st_store HFL.out (by rfl) (by rfl) ?_)
        | (at_builtin; refine st_app (mm := 1) rowT_str strQ_one HM.out (by rfl) (H := OwnL.up (fun _ _ _ _ h _ => h) HR.out (((Up.refl _).alloc _).alloc _)) (S := HS1.out) (by have := HLN.out; omega) (by decide) (by have := HU.out.size; simp only [World.size_alloc]; omega) (by rfl) (by rfl) ?_; intro ua uc w2 h1 h2 h3; have HR2 := Lib.hid h1; have HG2 := Lib.hid h2; clear h1 h2 h3))
      go_roundw
      case rel =>
        refine ⟨i + 1, by go_num, by omega, (((HU.out.alloc _).alloc _).grown' HG2.out fun k e => by have := HR.out.base k e; omega), (HB.out.up (((Up.refl _).alloc _).alloc _)).kept HG2.out (fun e => by have := HR.out.base _ e.symm; omega), ?_⟩
        rw [HT.out]; exact HR2.out
      case measure => simp [intOf]; omega
    · obtain rfl : pn = i := by omega
      have HTK : Hid (pars.take pn = pars) := Lib.hid (List.take_of_length_le (by rw [HPN.out]; exact Nat.le_refl _))
      rw [HTK.out] at HUE

      obtain ⟨W1, hW1⟩ : ∃ x, x = wr := ⟨_, rfl⟩
      have HQL : Hid (U.length ≤ 40) := Lib.hid (by rw [← HUE.out, List.length_map, HPN.out]; exact HSM.out.1)
      obtain ⟨Q, hQ⟩ : ∃ Q, U = Q := ⟨_, rfl⟩
      have HQE : Hid (pars.map (fun x : Par => x.1) = Q) := Lib.hid (by rw [HUE.out, hQ])
      have HR0 : Hid (OwnS (w.heap.size + 1) wr (.slice va m vc) (Q ++ (defs.take 0).map (fun x : Df => x.nm))) := Lib.hid (by rw [← hQ, List.take_zero, List.map_nil, List.append_nil]; exact HR.out)
      have HU1 := Lib.hid HU.out
      have HB1 := Lib.hid HB.out
      rw [hQ] at HQL
      clear hQ HUE HLN HR HM HTK hW1
      go_wp2
      clear HU HB b3 bs
      go_loopw [3, 24] (fun ov iv wr => ∃ i : Nat, iv = .int .i64 i ∧ i ≤ dn ∧ Up w wr ∧ BoxC wr w.heap.size 27 #[.slice sa sn sc, .slice ca cn cc, .slice pa pn pc, .slice da dn dc, .slice oa on_ oc] ∧ OwnS (w.heap.size + 1) wr ov (Q ++ (defs.take i).map (fun x : Df => x.nm))) (fun _ iv _ => dn - (intOf iv).toNat)
      case atStart => exact ⟨0, rfl, Nat.zero_le _, HU1.out, HB1.out, HR0.out⟩
      case round =>
        rename World => wr
        obtain ⟨i, rfl, hi, hup, hbx, hrow⟩ := hrel
        have HU := Lib.hid hup
        have HB := Lib.hid hbx
        have b3 : wr.cell? ⟨w.heap.size, 3, none⟩ = some (.slice da dn dc) := cell_of_row _ _ _ _ _ _ hbx
        have bs : w.heap.size < wr.heap.size := hbx.lt
        obtain ⟨U, hU⟩ : ∃ U, (Q ++ (defs.take i).map (fun x : Df => x.nm)) = U := ⟨_, rfl⟩
        have HUE := Lib.hid hU
        have HLN : Hid (U.length ≤ 80) := Lib.hid (by
          rw [← hU]
          rw [List.length_append, List.length_map, List.length_take]; have h9 := HQL.out
          have h3 := HSM.out
          omega)
        rw [hU] at hrow
        obtain ⟨va, vc, rfl⟩ := hrow.shape
        have HR := Lib.hid hrow
        obtain ⟨m, hm⟩ : ∃ m, U.length = m := ⟨_, rfl⟩
        rw [hm] at HR HLN ⊢
        have HM := Lib.hid hm
        clear hup hbx hrow hU hm
        by_cases hlt : i < dn
        · have hltI : (i : Int) < dn := by omega
          have hi1 : i < defs.length := by rw [HDN.out]; exact hlt
          obtain ⟨g, o, cs, rfl, hg, hcs, hld, h0, hsz, hc⟩ := HD.out.def i hi1
          have HT : Hid ((Q ++ (defs.take (i + 1)).map (fun x : Df => x.nm)) = U ++ [(fun x : Df => x.nm) defs[i]]) := Lib.hid (by rw [← HUE.out, List.take_succ_eq_append_getElem hi1, List.map_append, List.append_assoc]; rfl)
          have HLD := Lib.hid (hld wr HU.out)
          obtain ⟨x, hx⟩ : ∃ x, (fun x : Df => x.nm) defs[i] = x := ⟨_, rfl⟩
          have HSZ : Hid (x.size ≤ maxLen) := Lib.hid (by rw [← hx]; exact hsz)
          have h0n : cs.getD 0 undef = .string x := by rw [← hx]; exact h0
          rw [hx] at HT
          have hg' := Nat.lt_of_lt_of_le hg HU.out.size
          have HFL := Lib.hid (run_fill (P := Tryz.prog) (k := 22) def_i wr (Z := #[.string ByteArray.empty, .int .i64 0, .int .i64 0, .int .i64 0, .int .i64 0, .int .i64 0, .slice none 0 0, .slice none 0 0, .int .i64 0, .int .i64 0, .string ByteArray.empty, .int .i64 0, .int .i64 0, .int .i64 0, .int .i64 0, .int .i64 0, .int .i64 0, .int .i64 0, .int .i64 0, .slice none 0 0, .slice none 0 0, .slice none 0 0]) (cs := cs) rfl hcs.1 (hcs.one (defR_k N)))
          have d0 := (BoxC.new wr 50 cs).at h0n (by rw [hcs.1]; decide)
          clear hx hsz hc hld hcs hg h0 h0n hi1
          have HS1 : Hid (LsAt 1 16 (fun _ => strQ) ((wr.alloc (.cells cs 50)).alloc (.cells #[.string x] 9)) (.slice (some ⟨wr.heap.size + 1, 0, none⟩) 1 1) [x]) := Lib.hid (by have h := LsAt.one_str (wr.alloc (.cells cs 50)) HSZ.out; rw [World.size_alloc] at h; exact h)
          go_wp2_with (first
            | (refine st_load HLD.out (by rfl) ?_)
            | (refine st_store HFL.out (by rfl) (by rfl) ?_)
            | (at_builtin; refine st_app (mm := 1) rowT_str strQ_one HM.out (by rfl) (H := OwnL.up (fun _ _ _ _ h _ => h) HR.out (((Up.refl _).alloc _).alloc _)) (S := HS1.out) (by have := HLN.out; omega) (by decide) (by have := HU.out.size; simp only [World.size_alloc]; omega) (by rfl) (by rfl) ?_; intro ua uc w2 h1 h2 h3; have HR2 := Lib.hid h1; have HG2 := Lib.hid h2; clear h1 h2 h3))
          go_roundw
          case rel =>
            refine ⟨i + 1, by go_num, by omega, (((HU.out.alloc _).alloc _).grown' HG2.out fun k e => by have := HR.out.base k e; omega), (HB.out.up (((Up.refl _).alloc _).alloc _)).kept HG2.out (fun e => by have := HR.out.base _ e.symm; omega), ?_⟩
            rw [HT.out]; exact HR2.out
          case measure => simp [intOf]; omega
        · obtain rfl : dn = i := by omega
          have HTK : Hid (defs.take dn = defs) := Lib.hid (List.take_of_length_le (by rw [HDN.out]; exact Nat.le_refl _))
          rw [HTK.out] at HUE

          have HLS : Hid (LsAt 1 16 strR wr (.slice va m vc) U) := Lib.hid (by rw [← HM.out] at HR ⊢; exact OwnL.ls HR.out (by decide) (by have := HLN.out; have := HM.out; omega))
          have HUQ := Lib.hid (dg_unique _ U wr HLS.out (by have := HLN.out; have := HM.out; omega))
          go_wp2_with (go_at_call 33; (with_reducible refine HUQ.out.mono ?_); rintro e' y ⟨u, rfl, hy, hu⟩; have HY := Lib.hid (HU.out.trans hy); have HL := Lib.hid hu; clear hy hu)
          go_ret
          refine ⟨_, rfl, HY.out, ?_⟩
          rw [HORD.out, HQE.out, HUE.out]
          exact ⟨HL.out.1, HL.out.2.mono HU.out.size⟩
end Go.Proofs.YtpccaifhcmcegaaGreat

