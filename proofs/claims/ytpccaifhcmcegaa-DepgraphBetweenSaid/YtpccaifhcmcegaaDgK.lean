/-
  Between of the program. Printed by mkDgK.py.
-/
import Derived.Test.YtpccaifhcmcegaaDgG
import Derived.Test.YtpccaifhcmcegaaDgB
namespace Go.Proofs.Ytpccaifhcmcegaa
set_option linter.unusedSimpArgs false
open Go.ChangeShapes Go.WideShapes Go.ChangeAt Go.RowKit
set_option linter.unusedVariables false
set_option maxRecDepth 100000

theorem addU_nd {l : List ByteArray} {s : ByteArray} (h : l.Nodup) : (addU l s).Nodup := by
  unfold addU; split
  · exact h
  · rename_i hh
    refine List.nodup_append.2 ⟨h, by simp, fun a ha b hb e => ?_⟩
    rw [List.mem_singleton] at hb
    subst hb; subst e
    exact hh (has_iff.2 ha)
theorem foldU_nd : ∀ (m l : List ByteArray), l.Nodup → (m.foldl addU l).Nodup
  | [], l, h => h
  | s :: r, l, h => foldU_nd r _ (addU_nd h)
theorem ordF_nd (p : Pg) : (ordF p).Nodup := foldU_nd _ _ (foldU_nd _ _ List.nodup_nil)
theorem rchF_nd (p : Pg) (fr : List ByteArray) : (rchF p fr).Nodup := (ordF_nd p).filter _
/-- What a round of Between lays behind. -/
def oneF (b : Bool) (x : ByteArray) : List ByteArray := if b = true then [x] else []
theorem has_take {R : List ByteArray} {s : ByteArray} {j n : Nat} (hn : R.length = n) (hj : j < n) : has (R.take (j + 1)) s = (has (R.take j) s || decide (R[j]'(by omega) = s)) := by
  subst hn
  unfold has
  rw [List.take_succ_eq_append_getElem hj, List.any_append]
  simp
theorem nd_take {R : List ByteArray} (h : R.Nodup) {j n : Nat} (hn : R.length = n) (hj : j < n) : has (R.take j) (R[j]'(by omega)) = false := by
  subst hn
  rw [← Bool.not_eq_true, has_iff]
  intro hm
  obtain ⟨i, hi, e⟩ := List.mem_iff_getElem.1 hm
  rw [List.length_take] at hi
  rw [List.getElem_take] at e
  exact List.pairwise_iff_getElem.1 h i j (by omega) hj (by omega) e

set_option maxHeartbeats 16000000 in
theorem p_Between (N : Nat) (p : Pg) (v : Value) (fr t : ByteArray) (w : World) (hv : ProgAt N w v p) (ht : t.size ≤ maxLen) (hb : ∀ d ∈ p.defs, tot d.body ≤ 1500) (hsm : p.pars.length ≤ 40 ∧ p.defs.length ≤ 40) :
    Calls Try.prog 25 #[v, .string fr, .string t] w fun e w' => ∃ u, e = .returned u ∧ Up w w' ∧ NewS w w' u (btwF p fr t) := by
  obtain ⟨all, hall⟩ : ∃ all, rchF p [t] = all := ⟨_, rfl⟩
  obtain ⟨an, han⟩ : ∃ q, all.length = q := ⟨_, rfl⟩
  have HAN := Lib.hid han
  have hanb : an ≤ 80 := by have := rchF_len p [t]; rw [hall, han] at this; omega
  have hanI : (an : Int) ≤ 80 := by omega
  have HRF : Hid (btwF p fr t = all.filter fun x => has (rchF p [x]) fr) := Lib.hid (by unfold btwF; rw [hall])
  obtain ⟨RF, hRF⟩ : ∃ q, btwF p fr t = q := ⟨_, rfl⟩
  obtain ⟨G, hG⟩ : ∃ G : ByteArray → Bool, (fun x => has (rchF p [x]) fr) = G := ⟨_, rfl⟩
  rw [hRF, hG] at HRF
  rw [hRF]
  have HGE : Hid (∀ x, has (rchF p [x]) fr = G x) := Lib.hid fun x => congrFun hG x
  have HRC := Lib.hid (fun s nv y (hy : Up w y) (hn : LsAt 1 16 strR y nv [s]) => p_Reachable N p _ nv [s] y (hv.up hy) hn (by simp) hb hsm)
  have HC0 := Lib.hid (fun nv y (hy : Up w y) (hn : LsAt 1 16 strR y nv [t]) => Calls.strs (n := an) (HRC.out t nv y hy hn) (by rw [hall]; exact han))
  have HRN := Lib.hid (fun s => (⟨rchF_nd p [s], by have := rchF_len p [s]; omega⟩ : (rchF p [s]).Nodup ∧ (rchF p [s]).length ≤ 80))
  rw [hall] at HC0
  have HTZ := Lib.hid ht
  obtain ⟨v0, v1, v2, v3, v4, rfl, _⟩ := id hv
  clear hv hb hsm hall han hRF hG ht
  have HU0 : Hid (Up w (w.alloc (.cells #[v0, v1, v2, v3, v4] 27))) := Lib.hid ((Up.refl w).alloc _)
  have HB0 := Lib.hid (BoxC.new w 27 #[v0, v1, v2, v3, v4])
  have HLP := Lib.hid (run_cs (P := Try.prog) Try.underlying27 rfl prog_info (cs := #[v0, v1, v2, v3, v4]) rfl HB0.out.range)
  have HU01 := Lib.hid (HU0.out.alloc (.cells #[.string t] 9))
  have HL0 := Lib.hid (LsAt.one_str (w.alloc (.cells #[v0, v1, v2, v3, v4] 27)) HTZ.out).ofS
  rw [World.size_alloc] at HL0
  go_enter Try.func25, Try.ntmps25
  go_wp2_with (first
    | (refine st_load HLP.out (by rfl) ?_)
    | (go_at_call 16; (with_reducible refine (HC0.out _ _ HU01.out HL0.out).mono ?_); rintro e' W1 ⟨aa, ac, rfl, hy, hu⟩; have HW1 := Lib.hid (HU01.out.trans hy); have HB1 := Lib.hid ((HB0.out.up ((Up.refl _).alloc _)).up hy); have HA1 := Lib.hid hu.1; clear hy hu))
  clear HC0 HL0 HLP
  go_loopw [7, 17] (fun ov iv wr => ∃ i : Nat, iv = .int .i64 i ∧ i ≤ an ∧ Up W1 wr ∧ OwnS W1.heap.size wr ov ((all.take i).filter G)) (fun _ iv _ => an - (intOf iv).toNat)
  case atStart => exact ⟨0, rfl, Nat.zero_le _, Up.refl _, OwnL.nil⟩
  case round =>
    rename World => wr
    obtain ⟨i, rfl, hi, hup, hrow⟩ := hrel
    have HU1 := Lib.hid hup
    have HW := Lib.hid (HW1.out.trans hup)
    have HA := Lib.hid (HA1.out.up strR_up hup)
    obtain ⟨U, hU⟩ : ∃ U, (all.take i).filter G = U := ⟨_, rfl⟩
    have HUE := Lib.hid hU
    have HLN : Hid (U.length ≤ 80) := Lib.hid (by rw [← hU]; exact Nat.le_trans (List.length_filter_le _ _) (by rw [List.length_take, HAN.out]; omega))
    rw [hU] at hrow
    obtain ⟨va, vc, rfl⟩ := hrow.shape
    have HR := Lib.hid hrow
    obtain ⟨m, hm⟩ : ∃ m, U.length = m := ⟨_, rfl⟩
    rw [hm] at HR HLN ⊢
    have HM := Lib.hid hm
    clear hup hrow hU hm
    by_cases hlt : i < an
    · have hltI : (i : Int) < an := by omega
      have hi1 : i < all.length := by rw [HAN.out]; exact hlt
      obtain ⟨g, o, rfl, hg, hsz, hc⟩ := HA.out.txt i hi1
      have HT := Lib.hid (filter_take (f := G) HAN.out hlt)
      rw [HUE.out] at HT
      have hc1 := hc wr (Up.refl _)
      obtain ⟨x, hx⟩ : ∃ x, all[i]'hi1 = x := ⟨_, rfl⟩
      have HT : Hid ((all.take (i + 1)).filter G = if G x = true then U ++ [x] else U) := Lib.hid (by rw [← hx]; exact HT.out)
      rw [hx] at hsz hc1
      have HSZ := Lib.hid hsz
      clear hx hsz hc hi1
      obtain ⟨R, hR⟩ : ∃ R, rchF p [x] = R := ⟨_, rfl⟩
      have HGX : Hid (has R fr = G x) := Lib.hid (by rw [← hR, HGE.out])
      have HRX := Lib.hid (HRN.out x)
      rw [hR] at HRX
      obtain ⟨rn, hrn⟩ : ∃ q, R.length = q := ⟨_, rfl⟩
      have HRL := Lib.hid hrn
      have hrb : rn ≤ 80 := by rw [← hrn]; exact HRX.out.2
      have hrI : (rn : Int) ≤ 80 := by omega
      have HB := Lib.hid (HB1.out.up HU1.out)
      have HLP2 := Lib.hid (run_cs (P := Try.prog) Try.underlying27 rfl prog_info (cs := #[v0, v1, v2, v3, v4]) rfl HB.out.range)
      have HCX := Lib.hid (Calls.strs (n := rn) (HRC.out x _ _ (HW.out.alloc (.cells #[.string x] 9)) (LsAt.one_str wr HSZ.out).ofS) (by rw [hR]; exact hrn))
      rw [hR] at HCX
      clear hR hrn hg
      go_wp2_with (first
        | (refine st_load HLP2.out (by rfl) ?_)
        | (go_at_call 16; (with_reducible refine HCX.out.mono ?_); rintro e' W2 ⟨ra, rc, rfl, hy, hu⟩; have hu2 := ((Up.refl wr).alloc _).trans hy; have HW2 := Lib.hid hu2; have HLR := Lib.hid hu.1; have HLN2 := Lib.hid hu.2; have HR2L := Lib.hid HR.out.lt0; have HR2 := Lib.hid (OwnL.up (fun _ _ _ _ h _ => h) HR.out hu2); have HU2 := Lib.hid (HU1.out.trans hu2); clear hy hu hu2))
      clear HCX HLP2 HR
      go_loopw [7, 26] (fun ov jv y => ∃ j : Nat, jv = .int .i64 j ∧ j ≤ rn ∧ Up W1 y ∧ W2.heap.size ≤ y.heap.size ∧ LsAt 1 16 strR y (.slice ra rn rc) R ∧ (∀ g a, ov.ownBlock = some g → ra = some a → a.block ≠ g) ∧ OwnS W1.heap.size y ov (U ++ oneF (has (R.take j) fr) x)) (fun _ jv _ => rn - (intOf jv).toNat)
      case atStart => exact ⟨0, rfl, Nat.zero_le _, HU2.out, Nat.le_refl _, HLR.out, (fun g a e1 e2 => by have h1 := HR2L.out g e1; have h2 := HLN2.out a _ _ (by rw [e2]); simp only [World.size_alloc] at h2; omega), by rw [List.take_zero]; show OwnS _ _ _ (U ++ []); rw [List.append_nil]; exact HR2.out⟩
      case round =>
        rename World => y
        obtain ⟨j, rfl, hj, hup1, hup2, hlr, hsp, hrow⟩ := hrel
        have HLY := Lib.hid hlr
        have HSP := Lib.hid hsp
        have HY1 := Lib.hid hup1
        have HY2 := Lib.hid hup2
        obtain ⟨bj, hbj⟩ : ∃ b, has (R.take j) fr = b := ⟨_, rfl⟩
        have HBJ := Lib.hid hbj
        rw [hbj] at hrow
        obtain ⟨V, hV⟩ : ∃ V, U ++ oneF bj x = V := ⟨_, rfl⟩
        have HV := Lib.hid hV
        have HVL : Hid (V.length ≤ 81) := Lib.hid (by
          rw [← hV, List.length_append]
          have h1 := HLN.out
          have h2 := HM.out
          have h3 : (oneF bj x).length ≤ 1 := by unfold oneF; split <;> simp
          omega)
        rw [hV] at hrow
        obtain ⟨va, vc, rfl⟩ := hrow.shape
        obtain ⟨mv, hmv⟩ : ∃ q, V.length = q := ⟨_, rfl⟩
        rw [hmv] at hrow HVL HSP ⊢
        have HMV := Lib.hid hmv
        have HRV := Lib.hid hrow
        clear hup1 hup2 hrow hV hmv hbj hlr hsp
        by_cases hltj : j < rn
        · have hltJ : (j : Int) < rn := by omega
          obtain ⟨g2, o2, rfl, hg2, hsz2, hc2⟩ := HLY.out.txt j (by rw [HRL.out]; exact hltj)
          have hcy := hc2 y (Up.refl _)
          have hgy := hg2
          have HGY := Lib.hid hg2
          have HHT := Lib.hid (has_take (s := fr) HRL.out hltj)
          have HND := Lib.hid (nd_take HRX.out.1 HRL.out hltj)
          obtain ⟨z, hz⟩ : ∃ z, R[j]'(by rw [HRL.out]; exact hltj) = z := ⟨_, rfl⟩
          rw [hz] at hcy
          have HHT : Hid (has (R.take (j + 1)) fr = (bj || decide (z = fr))) := Lib.hid (by rw [← hz, HHT.out, HBJ.out])
          have HND : Hid (has (R.take j) z = false) := Lib.hid (by rw [← hz]; exact HND.out)
          have q := tl_eq z fr
          clear hz hsz2 hc2 hg2
          by_cases e : z = fr
          · rw [decide_eq_true e] at q
            have HBF : Hid (bj = false) := Lib.hid (by rw [← HBJ.out, ← e]; exact HND.out)
            have HV2 : Hid (U ++ oneF (has (R.take (j + 1)) fr) x = V ++ [x]) := Lib.hid (by
              have h := HV.out
              rw [HBF.out] at h
              rw [HHT.out, decide_eq_true e, Bool.or_true]
              rw [← h]
              show U ++ [x] = (U ++ []) ++ [x]
              rw [List.append_nil])
            clear e
            go_wp2_with (at_builtin; refine st_app (mm := 1) rowT_str strQ_one HMV.out (by rfl) (H := OwnL.up (fun _ _ _ _ h _ => h) HRV.out ((Up.refl _).alloc _)) (S := LsAt.one_str _ HSZ.out) (by have := HVL.out; omega) (by decide) (by have := HY1.out.size; simp only [World.size_alloc]; omega) (by rfl) (by rfl) ?_; intro ua uc w3 h1 h2 h3; have HR3 := Lib.hid h1; have HG3 := Lib.hid h2; have HO3 := Lib.hid h3; clear h1 h2 h3)
            go_roundw
            case rel =>
              refine ⟨j + 1, by go_num, by omega, (HY1.out.alloc _).grown' HG3.out (fun k e => by have := HRV.out.base k e; omega), ?_, ?_, ?_, by rw [HV2.out]; exact HR3.out⟩
              · have h1 := HY2.out; have h2 := HG3.out.size; simp only [World.size_alloc] at h2; omega
              · exact (HLY.out.up strR_up ((Up.refl _).alloc _)).str_kept HG3.out fun a n c e e2 => HSP.out _ a e2.symm (by cases e; rfl) rfl
              · intro g' a e1 e2 e3
                rcases HO3.out with h | h
                · exact HSP.out g' a (h.symm.trans e1) e2 e3
                · rw [h] at e1
                  have h1 := HGY.out
                  cases e2
                  cases e1
                  simp only [World.size_alloc] at e3
                  omega
            case measure => simp [intOf]; omega
          · rw [decide_eq_false e] at q
            have HV2 : Hid (U ++ oneF (has (R.take (j + 1)) fr) x = V) := Lib.hid (by rw [HHT.out, decide_eq_false e, Bool.or_false]; exact HV.out)
            clear e
            go_wp2
            go_roundw
            case rel => exact ⟨j + 1, by go_num, by omega, HY1.out, HY2.out, HLY.out, HSP.out, by rw [HV2.out]; exact HRV.out⟩
            case measure => simp [intOf]; omega
        · obtain rfl : rn = j := by omega
          have HTK : Hid (R.take rn = R) := Lib.hid (List.take_of_length_le (by rw [HRL.out]; exact Nat.le_refl _))
          have HE : Hid ((all.take (i + 1)).filter G = V) := Lib.hid (by
            rw [HT.out, ← HV.out, ← HBJ.out, HTK.out, HGX.out]
            unfold oneF
            cases G x
            · show U = U ++ []
              rw [List.append_nil]
            · rfl)
          go_wp2
          go_roundw
          case rel => exact ⟨i + 1, by go_num, by omega, HY1.out, by rw [HE.out]; exact HRV.out⟩
          case measure => simp [intOf]; omega
    · obtain rfl : an = i := by omega
      have HTK : Hid (all.take an = all) := Lib.hid (List.take_of_length_le (by rw [HAN.out]; exact Nat.le_refl _))
      have HRF2 : Hid (RF = U) := Lib.hid (by rw [HRF.out, ← HUE.out, HTK.out])
      go_wp2
      go_ret
      refine ⟨_, rfl, HW.out, ?_⟩
      rw [HRF2.out]
      exact OwnS.new (by have := HR.out; rw [← HM.out] at this ⊢; exact this) HW1.out.size (by have := HLN.out; have := HM.out; omega)
end Go.Proofs.Ytpccaifhcmcegaa
