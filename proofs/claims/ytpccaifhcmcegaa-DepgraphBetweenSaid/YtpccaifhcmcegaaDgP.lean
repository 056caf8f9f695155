/-
  Consumers of the reference 20. Printed by mkDgP.py.
-/
import Derived.Test.YtpccaifhcmcegaaDgO
namespace Go.Proofs.Ytpccaifhcmcegaa
set_option linter.unusedSimpArgs false
open Go.ChangeShapes Go.WideShapes Go.ChangeAt Go.RowKit
set_option linter.unusedVariables false
set_option maxRecDepth 100000

/-- The names of the definitions that read a name. -/
def rdB (s : ByteArray) (d : Df) : Bool := has (readsF d.body) s
def consF (l : List Df) (s : ByteArray) : List ByteArray := ((l.filter (rdB s)).map (·.nm)).foldl addU []
theorem cons_take {l : List Df} {s : ByteArray} {i n : Nat} (hn : l.length = n) (hi : i < n) : consF (l.take (i + 1)) s = if rdB s (l[i]'(by omega)) = true then addU (consF (l.take i) s) (l[i]'(by omega)).nm else consF (l.take i) s := by
  subst hn
  unfold consF
  rw [List.take_succ_eq_append_getElem hi, List.filter_append, List.map_append, List.foldl_append]
  cases h : rdB s l[i]
  · rw [List.filter_cons_of_neg (by rw [h]; decide)]; rfl
  · rw [List.filter_cons_of_pos h]; rfl
theorem consF_len (l : List Df) (s : ByteArray) : (consF l s).length ≤ l.length := by
  have h1 := foldl_addU_len ((l.filter (rdB s)).map (·.nm)) []
  have h2 := List.length_filter_le (rdB s) l
  rw [List.length_map] at h1
  simp only [List.length_nil] at h1
  unfold consF; omega

set_option maxHeartbeats 8000000 in
theorem r20_Consumers (N : Nat) (p : Pg) (v : Value) (s : ByteArray) (w : World) (hv : ProgAt N w v p) (hb : ∀ d ∈ p.defs, tot d.body ≤ 1500) (hsm : p.defs.length ≤ 40) :
    Calls Try.prog 15 #[v, .string s] w fun e w' => ∃ u, e = .returned u ∧ Up w w' ∧ NewS w w' u (consF p.defs s) := by
  obtain ⟨sa, sc, ca, cc, pa, pc, da, dc, oa, oc, rfl, hs, hcn, hp, hd, ho⟩ := hv.open
  obtain ⟨sizes, cons, pars, defs, outs⟩ := p
  dsimp only at *
  obtain ⟨sn, hsn⟩ : ∃ q, sizes.length = q := ⟨_, rfl⟩
  obtain ⟨cn, hcnn⟩ : ∃ q, cons.length = q := ⟨_, rfl⟩
  obtain ⟨pn, hpn⟩ : ∃ q, pars.length = q := ⟨_, rfl⟩
  obtain ⟨dn, hdn⟩ : ∃ q, defs.length = q := ⟨_, rfl⟩
  obtain ⟨on_, hon⟩ : ∃ q, outs.length = q := ⟨_, rfl⟩
  rw [hsn] at hs hv ⊢
  rw [hcnn] at hcn hv ⊢
  rw [hpn] at hp hv ⊢
  rw [hdn] at hd hv ⊢
  rw [hon] at ho hv ⊢
  have hdI : (dn : Int) ≤ 140737488351232 := by have := hd.bytes; rw [hdn] at this; omega
  have hpI : (pn : Int) ≤ 140737488351232 := by have := hp.bytes; rw [hpn] at this; omega
  have HV := Lib.hid hv
  have HS := Lib.hid hs
  have HC := Lib.hid hcn
  have HP := Lib.hid hp
  have HD := Lib.hid hd
  have HO := Lib.hid ho
  have HPN := Lib.hid hpn
  have HDN := Lib.hid hdn
  have HON := Lib.hid hon
  clear hs hcn hp hd ho hsn hcnn hpn hdn hon hv
  have HBT := Lib.hid hb
  have HSM : Hid (dn ≤ 40) := Lib.hid (by rw [← HDN.out]; exact hsm)
  clear hb hsm
  have HU0 : Hid (Up w (w.alloc (.cells #[.slice sa sn sc, .slice ca cn cc, .slice pa pn pc, .slice da dn dc, .slice oa on_ oc] 27))) := Lib.hid ((Up.refl w).alloc _)
  have HB0 := Lib.hid (BoxC.new w 27 #[.slice sa sn sc, .slice ca cn cc, .slice pa pn pc, .slice da dn dc, .slice oa on_ oc])
  go_enter Try.func15, Try.ntmps15
  go_wp2
  go_loopw [5, 6] (fun ov iv wr => ∃ i : Nat, iv = .int .i64 i ∧ i ≤ dn ∧ Up w wr ∧ BoxC wr w.heap.size 27 #[.slice sa sn sc, .slice ca cn cc, .slice pa pn pc, .slice da dn dc, .slice oa on_ oc] ∧ OwnS (w.heap.size + 1) wr ov (consF (defs.take i) s)) (fun _ iv _ => dn - (intOf iv).toNat)
  case atStart => exact ⟨0, rfl, Nat.zero_le _, HU0.out, HB0.out, OwnL.nil⟩
  case round =>
    rename World => wr
    obtain ⟨i, rfl, hi, hup, hbx, hrow⟩ := hrel
    have HU := Lib.hid hup
    have HB := Lib.hid hbx
    have bx : wr.cell? ⟨w.heap.size, 3, none⟩ = some (.slice da dn dc) := cell_of_row _ _ _ _ _ _ hbx
    have bs : w.heap.size < wr.heap.size := hbx.lt
    obtain ⟨U, hU⟩ : ∃ U, consF (defs.take i) s = U := ⟨_, rfl⟩
    have HUE := Lib.hid hU
    have HLN : Hid (U.length ≤ 40) := Lib.hid (by
      rw [← hU]
      have h1 := consF_len (defs.take i) s
      rw [List.length_take] at h1
      have h3 := HSM.out
      omega)
    rw [hU] at hrow
    obtain ⟨va, vc, rfl⟩ := hrow.shape
    have HR := Lib.hid hrow
    obtain ⟨m, hm⟩ : ∃ m, U.length = m := ⟨_, rfl⟩
    rw [hm] at HR HLN ⊢
    have HM := Lib.hid hm
    clear hup hbx hrow hU hm HU0 HB0
    by_cases hlt : i < dn
    · have hltI : (i : Int) < dn := by omega
      have hi1 : i < defs.length := by rw [HDN.out]; exact hlt
      obtain ⟨g, o, cs, rfl, hg, hcs, hld, _, hsz, hc⟩ := HD.out.def i hi1
      have HT := Lib.hid (cons_take (s := s) HDN.out hlt)
      rw [HUE.out] at HT
      have HTB := Lib.hid (HBT.out _ (List.getElem_mem hi1))
      obtain ⟨d, hx⟩ : ∃ d, defs[i] = d := ⟨_, rfl⟩
      have HT : Hid (consF (defs.take (i + 1)) s = if rdB s d = true then addU U d.nm else U) := Lib.hid (by rw [← hx]; exact HT.out)
      rw [hx] at hcs hsz hc HTB
      have HC := Lib.hid hc
      have HRD := Lib.hid (fun y (hy : Up w y) => r20_Reads N d _ y (DefAt.up ⟨cs, rfl, hcs⟩ hy) HTB.out)
      have HLD := Lib.hid (hld wr HU.out)
      have HSZ := Lib.hid hsz
      obtain ⟨x, hnm⟩ : ∃ x, d.nm = x := ⟨_, rfl⟩
      rw [hnm] at HT HC HSZ
      obtain ⟨R, hR⟩ : ∃ R, readsF d.body = R := ⟨_, rfl⟩
      have HT : Hid (consF (defs.take (i + 1)) s = if has R s = true then addU U x else U) := Lib.hid (by rw [← hR]; exact HT.out)
      rw [hR] at HRD
      have HG := Lib.hid hg
      have hg' := Nat.lt_of_lt_of_le hg HU.out.size
      clear hx hsz hc hld hnm hcs hg hR
      obtain ⟨b1, hb1⟩ : ∃ b, has R s = b := ⟨_, rfl⟩
      have HB1 := Lib.hid hb1
      obtain ⟨b2, hb2⟩ : ∃ b, has U x = b := ⟨_, rfl⟩
      have HB2 := Lib.hid hb2
      have HLS : Hid (LsAt 1 16 strR wr (.slice va m vc) U) := Lib.hid (by rw [← HM.out] at HR ⊢; exact OwnL.ls HR.out (by decide) (by have := HLN.out; have := HM.out; omega))
      clear hb1 hb2
      cases b1
      · have HA : Hid (consF (defs.take (i + 1)) s = U) := Lib.hid (by rw [HT.out, HB1.out]; rfl)
        go_wp2_with (first
          | (refine st_load HLD.out (by rfl) ?_)
          | (go_at_call 32; (with_reducible refine (HRD.out _ HU.out).mono ?_); rintro e' y ⟨u, rfl, hy, hu⟩; have HY := Lib.hid hy; have HL := Lib.hid hu; clear hy hu)
          | (go_at_call 27; (with_reducible refine (base_Has s R _ _ HL.out.ls false HB1.out).mono ?_); rintro e' x' ⟨rfl, hx'⟩; rw [hx']; clear hx' x'))
        go_roundw
        case rel => exact ⟨i + 1, by go_num, by omega, HU.out.trans HY.out, HB.out.up HY.out, by rw [HA.out]; exact OwnL.up (fun _ _ _ _ h _ => h) HR.out HY.out⟩
        case measure => simp [intOf]; omega
      · cases b2
        · have HA : Hid (consF (defs.take (i + 1)) s = U ++ [x]) := Lib.hid (by rw [HT.out, HB1.out, if_pos rfl]; unfold addU; rw [HB2.out]; rfl)
          go_wp2_with (first
            | (refine st_load HLD.out (by rfl) ?_)
            | (go_at_call 32; (with_reducible refine (HRD.out _ HU.out).mono ?_); rintro e' y ⟨u, rfl, hy, hu⟩; have HY := Lib.hid hy; have HL := Lib.hid hu; have HUY := Lib.hid (HU.out.trans hy); have bxy : y.cell? ⟨w.heap.size, 3, none⟩ = some (.slice (some ⟨g, o, none⟩) dn dc) := cell_of_row _ _ _ _ _ _ (HB.out.up hy); have bsy := (HB.out.up hy).lt; have hgy := Nat.lt_of_lt_of_le HG.out HUY.out.size; have hcy := HC.out y HUY.out; have HLY := Lib.hid (HLS.out.up strR_up hy); have HRY := Lib.hid (OwnL.up (fun _ _ _ _ h _ => h) HR.out hy); have HBY := Lib.hid (HB.out.up hy); clear hy hu)
            | (go_at_call 27; (with_reducible refine (base_Has s R _ _ HL.out.ls true HB1.out).mono ?_); rintro e' x' ⟨rfl, hx'⟩; rw [hx']; clear hx' x')
            | (go_at_call 27; (with_reducible refine (base_Has x U _ _ HLY.out false HB2.out).mono ?_); rintro e' x' ⟨rfl, hx'⟩; rw [hx']; clear hx' x')
            | (at_builtin; refine st_app (mm := 1) rowT_str strQ_one HM.out (by rfl) (H := OwnL.up (fun _ _ _ _ h _ => h) HRY.out ((Up.refl _).alloc _)) (S := LsAt.one_str _ HSZ.out) (by have := HLN.out; omega) (by decide) (by have := HUY.out.size; simp only [World.size_alloc]; omega) (by rfl) (by rfl) ?_; intro ua uc w2 h1 h2 h3; have HR2 := Lib.hid h1; have HG2 := Lib.hid h2; clear h1 h2 h3))
          go_roundw
          case rel =>
            refine ⟨i + 1, by go_num, by omega, ((HUY.out.alloc _).grown' HG2.out fun k e => by have := HR.out.base k e; omega), (HBY.out.up ((Up.refl _).alloc _)).kept HG2.out (fun e => by have := HR.out.base _ e.symm; omega), ?_⟩
            rw [HA.out]; exact HR2.out
          case measure => simp [intOf]; omega
        · have HA : Hid (consF (defs.take (i + 1)) s = U) := Lib.hid (by rw [HT.out, HB1.out, if_pos rfl]; unfold addU; rw [HB2.out]; rfl)
          go_wp2_with (first
            | (refine st_load HLD.out (by rfl) ?_)
            | (go_at_call 32; (with_reducible refine (HRD.out _ HU.out).mono ?_); rintro e' y ⟨u, rfl, hy, hu⟩; have HY := Lib.hid hy; have HL := Lib.hid hu; have HUY := Lib.hid (HU.out.trans hy); have bxy : y.cell? ⟨w.heap.size, 3, none⟩ = some (.slice (some ⟨g, o, none⟩) dn dc) := cell_of_row _ _ _ _ _ _ (HB.out.up hy); have bsy := (HB.out.up hy).lt; have hgy := Nat.lt_of_lt_of_le HG.out HUY.out.size; have hcy := HC.out y HUY.out; have HLY := Lib.hid (HLS.out.up strR_up hy); clear hy hu)
            | (go_at_call 27; (with_reducible refine (base_Has s R _ _ HL.out.ls true HB1.out).mono ?_); rintro e' x' ⟨rfl, hx'⟩; rw [hx']; clear hx' x')
            | (go_at_call 27; (with_reducible refine (base_Has x U _ _ HLY.out true HB2.out).mono ?_); rintro e' x' ⟨rfl, hx'⟩; rw [hx']; clear hx' x'))
          go_roundw
          case rel => exact ⟨i + 1, by go_num, by omega, HUY.out, HB.out.up HY.out, by rw [HA.out]; exact OwnL.up (fun _ _ _ _ h _ => h) HR.out HY.out⟩
          case measure => simp [intOf]; omega
    · obtain rfl : dn = i := by omega
      have HTK : Hid (defs.take dn = defs) := Lib.hid (List.take_of_length_le (by rw [HDN.out]; exact Nat.le_refl _))
      rw [HTK.out] at HUE
      go_wp2
      go_ret
      refine ⟨_, rfl, HU.out, ?_⟩
      rw [HUE.out]
      exact OwnS.new HR.out (Nat.le_succ _) (by have := HLN.out; have := HM.out; omega)
end Go.Proofs.Ytpccaifhcmcegaa
