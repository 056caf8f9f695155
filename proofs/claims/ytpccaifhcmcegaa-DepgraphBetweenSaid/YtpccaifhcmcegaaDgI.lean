/-
  IndexOf and Inputs of the program. Printed by mkDgI.py.
-/
import Derived.Test.YtpccaifhcmcegaaDgQ
import Derived.Test.YtpccaifhcmcegaaGf
namespace Go.Proofs.Ytpccaifhcmcegaa
set_option linter.unusedSimpArgs false
open Go.ChangeShapes Go.WideShapes Go.ChangeAt Go.RowKit
set_option linter.unusedVariables false
set_option maxRecDepth 100000

theorem ex_Reads (N : Nat) (e : Ex) (v : Value) (w : World) (hv : ExAt N w v e) (ht : tot e ≤ 1500) :
    Calls Try.prog 31 #[v] w fun e' w' => ∃ u, e' = .returned u ∧ Up w w' ∧ LsN w.heap.size w' u (readsF e) :=
  callsIn_wide.1 (ex_Reads_in N e v w hv ht)
theorem range_sub {w : World} {g o : Nat} {cs : Array Value} (a n : Nat) (h : w.rangeAt g o cs.toList) : w.rangeAt g (o + a) (cs.extract a (a + n)).toList := fun j v hv => by
  have h1 : cs.toList[a + j]? = some v := by
    rw [Array.getElem?_toList] at hv ⊢
    rw [Array.getElem?_extract] at hv
    split at hv
    · exact hv
    · cases hv
  have := h (a + j) v h1
  rw [Nat.add_assoc]
  exact this
theorem box_one {w : World} {g : Nat} {t : TypeId} {a : Value} (h : BoxC w g t #[a]) : w.cell? ⟨g, 0, none⟩ = some a := cell_of_row _ _ _ _ _ _ h

theorem prog_infoI : (Try.prog.info? 27).map (·.size) = some 5 := by kernel_rfl
set_option maxHeartbeats 4000000 in
theorem p_name (cs : Array Value) (nm s : ByteArray) (g : Nat) (w : World) (hs : cs.size = 22) (h0 : cs.getD 0 undef = .string nm) (hb : BoxC w g 9 #[.string s]) :
    Calls Try.prog 43 #[.agg cs, .pointer (some ⟨g, 0, none⟩)] w fun e w' => e = .returned (.bool (decide (nm = s))) ∧ Up w w' := by
  have HU := Lib.hid ((Up.refl w).alloc (.cells cs 59))
  have hb1 := hb.up HU.out
  have c0 := (BoxC.new w 59 cs).at h0 (by rw [hs]; decide)
  have c1 := box_one hb1
  have q := tl_eq nm s
  clear hb hb1 h0 hs
  go_enter Try.func43, Try.ntmps43
  go_wp2
  go_ret
  exact ⟨rfl, HU.out⟩
set_option maxHeartbeats 8000000 in
theorem p_IndexFunc (N : Nat) (defs : List Df) (s : ByteArray) (g0 : Nat) (v : Value) (w : World) (hv : LsAt 22 272 (defR N) w v defs) (hb : BoxC w g0 9 #[.string s]) :
    Calls Try.prog 42 #[v, .func (.func 43) #[] #[.pointer (some ⟨g0, 0, none⟩)]] w fun e w' => Up w w' ∧ ((e = .returned (.int .i64 (-1)) ∧ inF defs s = []) ∨ ∃ (i : Nat) (d : Df), e = .returned (.int .i64 i) ∧ defs[i]? = some d ∧ inF defs s = readsF d.body) := by
  obtain ⟨da, dc, rfl, -⟩ := hv.shape
  obtain ⟨dn, hdn⟩ : ∃ q, defs.length = q := ⟨_, rfl⟩
  have hdI : (defs.length : Int) ≤ 140737488351232 := by have := hv.bytes; omega
  rw [hdn] at hv hdI ⊢
  have HD := Lib.hid hv
  have HDN := Lib.hid hdn
  have HBS := Lib.hid hb
  obtain ⟨R, hR⟩ : ∃ R, inF defs s = R := ⟨_, rfl⟩
  have HR0 : Hid (inF (defs.drop 0) s = R) := Lib.hid hR
  rw [hR]
  clear hv hdn hb hR
  go_enter Try.func42, Try.ntmps42
  go_wp2
  go_loopw [8] (fun iv wr => ∃ i : Nat, iv = .int .i64 i ∧ i ≤ dn ∧ inF (defs.drop i) s = R ∧ Up w wr) (fun iv _ => dn - (intOf iv).toNat)
  case atStart => exact ⟨0, rfl, Nat.zero_le _, HR0.out, Up.refl _⟩
  case round =>
    rename World => wr
    obtain ⟨i, rfl, hi, hP, hup⟩ := hrel
    have HU := Lib.hid hup
    have HP := Lib.hid hP
    clear hup hP HR0
    by_cases hlt : i < dn
    · have hltI : (i : Int) < dn := by omega
      have hi1 : i < defs.length := by rw [HDN.out]; exact hlt
      obtain ⟨g, o, cs, rfl, hg, hc, hld, h0, hsz, hnm⟩ := HD.out.def i hi1
      have HIN := Lib.hid (inF_drop (s := s) HDN.out hlt)
      have hg' := Nat.lt_of_lt_of_le hg HU.out.size
      have HLD := Lib.hid (hld wr HU.out)
      have HN := Lib.hid (p_name cs defs[i].nm s g0 wr hc.1 h0 (HBS.out.up HU.out))
      clear hnm hld hsz h0 hc hg
      by_cases e : defs[i].nm = s
      · rw [decide_eq_true e] at HN
        have HE : Hid (R = readsF defs[i].body) := Lib.hid (by rw [← HP.out, HIN.out, if_pos e])
        have HI1 := Lib.hid (List.getElem?_eq_getElem hi1)
        clear e HIN
        go_wp2_with (first
          | (refine st_load HLD.out (by rfl) ?_)
          | (go_at_call 43; (with_reducible refine HN.out.mono ?_); rintro e' y ⟨rfl, hy⟩; have HY := Lib.hid (HU.out.trans hy); clear hy))
        go_ret
        exact ⟨HY.out, .inr ⟨i, _, rfl, HI1.out, HE.out⟩⟩
      · rw [decide_eq_false e] at HN
        have HE : Hid (inF (defs.drop (i + 1)) s = R) := Lib.hid (by rw [← HP.out, HIN.out, if_neg e])
        clear e hi1 HIN
        go_wp2_with (first
          | (refine st_load HLD.out (by rfl) ?_)
          | (go_at_call 43; (with_reducible refine HN.out.mono ?_); rintro e' y ⟨rfl, hy⟩; have HY := Lib.hid (HU.out.trans hy); clear hy))
        go_roundw
        case rel => exact ⟨i + 1, by go_num, by omega, HE.out, HY.out⟩
        case measure => simp [intOf]; omega
    · obtain rfl : i = dn := by omega
      have HE : Hid (R = []) := Lib.hid (by rw [← HP.out, List.drop_of_length_le (by rw [HDN.out]; exact Nat.le_refl _)]; rfl)
      go_wp2
      go_ret
      exact ⟨HU.out, .inl ⟨rfl, HE.out⟩⟩
set_option maxHeartbeats 4000000 in
theorem p_IndexOf (N : Nat) (p : Pg) (v : Value) (s : ByteArray) (w : World) (hv : ProgAt N w v p) :
    Calls Try.prog 30 #[v, .string s] w fun e w' => Up w w' ∧ ((e = .returned (.int .i64 (-1)) ∧ inF p.defs s = []) ∨ ∃ (i : Nat) (d : Df), e = .returned (.int .i64 i) ∧ p.defs[i]? = some d ∧ inF p.defs s = readsF d.body) := by
  obtain ⟨sa, sc, ca, cc, pa, pc, da, dc, oa, oc, rfl, hs, hcn, hp, hd, ho⟩ := hv.open
  obtain ⟨sizes, cons, pars, defs, outs⟩ := p
  dsimp only at *
  obtain ⟨sn, hsn⟩ : ∃ q, sizes.length = q := ⟨_, rfl⟩
  obtain ⟨cn, hcnn⟩ : ∃ q, cons.length = q := ⟨_, rfl⟩
  obtain ⟨pn, hpn⟩ : ∃ q, pars.length = q := ⟨_, rfl⟩
  obtain ⟨dn, hdn⟩ : ∃ q, defs.length = q := ⟨_, rfl⟩
  obtain ⟨on_, hon⟩ : ∃ q, outs.length = q := ⟨_, rfl⟩
  rw [hsn] at hs hv ⊢
  rw [hcnn] at hcn hv ⊢
  rw [hpn] at hp hv ⊢
  rw [hdn] at hd hv ⊢
  rw [hon] at ho hv ⊢
  have hdI : (dn : Int) ≤ 140737488351232 := by have := hd.bytes; rw [hdn] at this; omega
  have hpI : (pn : Int) ≤ 140737488351232 := by have := hp.bytes; rw [hpn] at this; omega
  have HV := Lib.hid hv
  have HS := Lib.hid hs
  have HC := Lib.hid hcn
  have HP := Lib.hid hp
  have HD := Lib.hid hd
  have HO := Lib.hid ho
  have HPN := Lib.hid hpn
  have HDN := Lib.hid hdn
  have HON := Lib.hid hon
  clear hs hcn hp hd ho hsn hcnn hpn hdn hon hv

  have HU1 := Lib.hid (((Up.refl w).alloc (.cells #[.slice sa sn sc, .slice ca cn cc, .slice pa pn pc, .slice da dn dc, .slice oa on_ oc] 27)).alloc (.cells #[.string s] 9))
  have c3 : ((w.alloc (.cells #[.slice sa sn sc, .slice ca cn cc, .slice pa pn pc, .slice da dn dc, .slice oa on_ oc] 27)).alloc (.cells #[.string s] 9)).cell? ⟨w.heap.size, 3, none⟩ = some (.slice da dn dc) := cell_of_row _ _ _ _ _ _ ((BoxC.new w 27 #[.slice sa sn sc, .slice ca cn cc, .slice pa pn pc, .slice da dn dc, .slice oa on_ oc]).up ((Up.refl _).alloc (.cells #[.string s] 9)))
  have HC1 := Lib.hid (p_IndexFunc N defs s (w.heap.size + 1) _ _ (HD.out.up (defR_up N) HU1.out) (BoxC.new2 w _ _ _))
  go_enter Try.func30, Try.ntmps30
  go_wp2_with (go_at_call 42; (with_reducible refine HC1.out.mono ?_); rintro e' y ⟨hy, (⟨rfl, hR⟩ | ⟨i, d, rfl, hdd, hR⟩)⟩ <;> (have HY := Lib.hid (HU1.out.trans hy); have HR := Lib.hid hR; clear hy hR))
  · go_ret
    exact ⟨HY.out, .inl ⟨rfl, HR.out⟩⟩
  · go_ret
    exact ⟨HY.out, .inr ⟨i, d, rfl, hdd, HR.out⟩⟩
set_option maxHeartbeats 4000000 in
theorem p_Inputs (N : Nat) (p : Pg) (v : Value) (s : ByteArray) (w : World) (hv : ProgAt N w v p) (hb : ∀ d ∈ p.defs, tot d.body ≤ 1500) :
    Calls Try.prog 12 #[v, .string s] w fun e w' => ∃ u, e = .returned u ∧ Up w w' ∧ LsN w.heap.size w' u (inF p.defs s) := by
  obtain ⟨sa, sc, ca, cc, pa, pc, da, dc, oa, oc, rfl, hs, hcn, hp, hd, ho⟩ := hv.open
  obtain ⟨sizes, cons, pars, defs, outs⟩ := p
  dsimp only at *
  obtain ⟨sn, hsn⟩ : ∃ q, sizes.length = q := ⟨_, rfl⟩
  obtain ⟨cn, hcnn⟩ : ∃ q, cons.length = q := ⟨_, rfl⟩
  obtain ⟨pn, hpn⟩ : ∃ q, pars.length = q := ⟨_, rfl⟩
  obtain ⟨dn, hdn⟩ : ∃ q, defs.length = q := ⟨_, rfl⟩
  obtain ⟨on_, hon⟩ : ∃ q, outs.length = q := ⟨_, rfl⟩
  rw [hsn] at hs hv ⊢
  rw [hcnn] at hcn hv ⊢
  rw [hpn] at hp hv ⊢
  rw [hdn] at hd hv ⊢
  rw [hon] at ho hv ⊢
  have hdI : (dn : Int) ≤ 140737488351232 := by have := hd.bytes; rw [hdn] at this; omega
  have hpI : (pn : Int) ≤ 140737488351232 := by have := hp.bytes; rw [hpn] at this; omega
  have HV := Lib.hid hv
  have HS := Lib.hid hs
  have HC := Lib.hid hcn
  have HP := Lib.hid hp
  have HD := Lib.hid hd
  have HO := Lib.hid ho
  have HPN := Lib.hid hpn
  have HDN := Lib.hid hdn
  have HON := Lib.hid hon
  clear hs hcn hp hd ho hsn hcnn hpn hdn hon hv

  have HIX := Lib.hid (fun y (hy : Up w y) => p_IndexOf N _ _ s y (HV.out.up hy))
  dsimp only at HIX
  have HBT := Lib.hid hb
  obtain ⟨R, hR⟩ : ∃ R, inF defs s = R := ⟨_, rfl⟩
  rw [hR] at HIX ⊢
  clear hb hR
  have HU0 : Hid (Up w (w.alloc (.cells #[.slice sa sn sc, .slice ca cn cc, .slice pa pn pc, .slice da dn dc, .slice oa on_ oc] 27))) := Lib.hid ((Up.refl w).alloc _)
  have HB0 := Lib.hid (BoxC.new w 27 #[.slice sa sn sc, .slice ca cn cc, .slice pa pn pc, .slice da dn dc, .slice oa on_ oc])

  have HLP := Lib.hid (run_cs (P := Try.prog) Try.underlying27 rfl prog_infoI (w := w.alloc (.cells #[.slice sa sn sc, .slice ca cn cc, .slice pa pn pc, .slice da dn dc, .slice oa on_ oc] 27)) (cs := #[.slice sa sn sc, .slice ca cn cc, .slice pa pn pc, .slice da dn dc, .slice oa on_ oc]) rfl HB0.out.range)
  go_enter Try.func12, Try.ntmps12
  go_wp2_with (first
    | (refine st_load HLP.out (by rfl) ?_)
    | (refine st_load HLE.out (by rfl) ?_)
    | (go_at_call 31; (with_reducible refine HRD.out.mono ?_); rintro e' y2 ⟨u, rfl, hy, hu⟩; have HY2 := Lib.hid (HY.out.trans hy); have HL := Lib.hid hu; clear hy hu)
    | (go_at_call 30; (with_reducible refine (HIX.out _ HU0.out).mono ?_); rintro e' y ⟨hy, (⟨rfl, hR⟩ | ⟨i, d, rfl, hdd, hR⟩)⟩ <;> (have HY := Lib.hid (HU0.out.trans hy); have HR := Lib.hid hR; have HBY := Lib.hid (HB0.out.up hy); clear hy hR) <;> (try
        (obtain ⟨hi1, hd1⟩ := List.getElem?_eq_some_iff.1 hdd
         have HTB := Lib.hid (HBT.out _ (List.getElem_mem hi1))
         obtain ⟨g, o, cs, rfl, hg, hc, hr⟩ := HD.out.row (defR_k N) i hi1
         rw [hd1] at hc HTB
         have hiI : (i : Int) < dn := by have h := HDN.out; rw [h] at hi1; omega
         have hi2 : i < dn := by omega
         have hg' := Nat.lt_of_lt_of_le hg HY.out.size
         have b3 : y.cell? ⟨w.heap.size, 3, none⟩ = some (.slice (some ⟨g, o, none⟩) dn dc) := cell_of_row _ _ _ _ _ _ HBY.out
         have HLE := Lib.hid (run_ex hc.body.1 (range_sub 9 13 (hr y HY.out)))
         have HRD := Lib.hid (ex_Reads N d.body _ y (hc.body.ex.up HY.out) HTB.out)
         clear hdd hi1 hd1 hg hc hr))))
  · go_ret
    refine ⟨_, rfl, HY.out, ?_⟩
    rw [HR.out]; exact LsN.nil _ _
  · go_ret
    refine ⟨_, rfl, HY2.out, ?_⟩
    rw [HR.out]
    exact ⟨HL.out.1, HL.out.2.mono HY.out.size⟩
end Go.Proofs.Ytpccaifhcmcegaa
