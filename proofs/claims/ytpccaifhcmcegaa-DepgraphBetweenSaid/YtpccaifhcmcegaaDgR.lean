/-
  Reachable of the reference 20. Printed by mkDgR.py.
-/
import Derived.Test.YtpccaifhcmcegaaDgRp
namespace Go.Proofs.Ytpccaifhcmcegaa
set_option linter.unusedSimpArgs false
open Go.ChangeShapes Go.WideShapes Go.ChangeAt Go.RowKit
set_option linter.unusedVariables false
set_option maxRecDepth 100000

theorem Calls.strs {P : Program} {f : FuncId} {args : Array Value} {y : World} {B n : Nat} {l : List ByteArray} (h : Calls P f args y fun e x => ∃ u, e = .returned u ∧ Up y x ∧ LsN B x u l) (hn : l.length = n) :
    Calls P f args y fun e x => ∃ a c, e = .returned (.slice a n c) ∧ Up y x ∧ LsN B x (.slice a n c) l :=
  h.mono fun e x ⟨u, h1, h2, h3⟩ => by
    obtain ⟨a, c, rfl, _⟩ := h3.1.shape
    rw [hn] at h1 h3
    exact ⟨a, c, h1, h2, h3⟩

set_option maxHeartbeats 16000000 in
theorem r20_Reachable (N : Nat) (p : Pg) (v nv : Value) (names : List ByteArray) (w : World) (hv : ProgAt N w v p) (hnv : LsAt 1 16 strR w nv names) (hb : ∀ d ∈ p.defs, tot d.body ≤ 1500) (hsm : p.pars.length ≤ 40 ∧ p.defs.length ≤ 40) :
    Calls Try.prog 17 #[v, nv] w fun e w' => ∃ u, e = .returned u ∧ Up w w' ∧ NewS w w' u (rchF p names) := by
  obtain ⟨na, nc, rfl, _⟩ := hnv.shape
  obtain ⟨nn, hnn⟩ : ∃ q, names.length = q := ⟨_, rfl⟩
  rw [hnn] at hnv ⊢
  have hnI : (nn : Int) ≤ 140737488351232 := by have := hnv.bytes; rw [hnn] at this; omega
  have HNV := Lib.hid hnv
  have HNN := Lib.hid hnn
  obtain ⟨all, hall⟩ : ∃ all, ordF p = all := ⟨_, rfl⟩
  obtain ⟨an, han⟩ : ∃ q, all.length = q := ⟨_, rfl⟩
  have HAN := Lib.hid han
  have hanb : an ≤ 80 := by have := ordF_len p; rw [hall, han] at this; omega
  have hanI : (an : Int) ≤ 80 := by omega
  have HDN := Lib.hid (fun S (h : InvR all p.defs names S S.length) => InvR.done (p := p) (fr := names) (S := S) (by rw [hall]; exact h))
  rw [hall] at HDN
  obtain ⟨RF, hRF⟩ : ∃ q, rchF p names = q := ⟨_, rfl⟩
  rw [hRF] at HDN ⊢
  have HORD := Lib.hid (fun y (hy : Up w y) => Calls.strs (n := an) (r20_ordered N p _ y (hv.up hy) hsm) (by rw [hall]; exact han))
  rw [hall] at HORD
  have HIN := Lib.hid (fun s y (hy : Up w y) => r20_Inputs N p _ s y (hv.up hy) hb)
  obtain ⟨D, hD⟩ : ∃ D, p.defs = D := ⟨_, rfl⟩
  rw [hD] at HDN HIN
  obtain ⟨v0, v1, v2, v3, v4, rfl, _⟩ := id hv
  clear hv hb hsm hnv hnn hall han hRF hD
  have HU0 : Hid (Up w (w.alloc (.cells #[v0, v1, v2, v3, v4] 27))) := Lib.hid ((Up.refl w).alloc _)
  have HB0 := Lib.hid (BoxC.new w 27 #[v0, v1, v2, v3, v4])
  go_enter Try.func17, Try.ntmps17
  go_wp2_with (go_at_call 36; (with_reducible refine (HORD.out _ HU0.out).mono ?_); rintro e' W1 ⟨aa, ac, rfl, hy, hu⟩; have HW1 := Lib.hid (HU0.out.trans hy); have HB1 := Lib.hid (HB0.out.up hy); have HA1 := Lib.hid hu.1; clear hy hu)
  go_loopw [6, 7] (fun ov iv wr => ∃ i : Nat, iv = .int .i64 i ∧ i ≤ nn ∧ Up W1 wr ∧ OwnS W1.heap.size wr ov ((names.take i).foldl (addK all) [])) (fun _ iv _ => nn - (intOf iv).toNat)
  case atStart => exact ⟨0, rfl, Nat.zero_le _, Up.refl _, OwnL.nil⟩
  case round =>
    rename World => wr
    obtain ⟨i, rfl, hi, hup, hrow⟩ := hrel
    have HU1 := Lib.hid hup
    have HUB := Lib.hid (HW1.out.trans hup)
    have HA := Lib.hid (HA1.out.up strR_up hup)
    obtain ⟨U, hU⟩ : ∃ U, (names.take i).foldl (addK all) [] = U := ⟨_, rfl⟩
    have HUE := Lib.hid hU
    have HLN : Hid (U.length ≤ 80) := Lib.hid (by rw [← hU]; exact Nat.le_trans foldK_len (by rw [HAN.out]; exact hanb))
    rw [hU] at hrow
    obtain ⟨va, vc, rfl⟩ := hrow.shape
    have HR := Lib.hid hrow
    obtain ⟨m, hm⟩ : ∃ m, U.length = m := ⟨_, rfl⟩
    rw [hm] at HR HLN ⊢
    have HM := Lib.hid hm
    clear hup hrow hU hm
    by_cases hlt : i < nn
    · have hltI : (i : Int) < nn := by omega
      have hi1 : i < names.length := by rw [HNN.out]; exact hlt
      obtain ⟨g, o, rfl, hg, hsz, hc⟩ := HNV.out.txt i hi1
      have HT := Lib.hid (foldK_take (all := all) (u := []) HNN.out hlt)
      rw [HUE.out] at HT
      have hc1 := hc wr HUB.out
      have hg' := Nat.lt_of_lt_of_le hg HUB.out.size
      obtain ⟨x, hx⟩ : ∃ x, names[i]'hi1 = x := ⟨_, rfl⟩
      have HT : Hid ((names.take (i + 1)).foldl (addK all) [] = addK all U x) := Lib.hid (by rw [← hx]; exact HT.out)
      rw [hx] at hsz hc1
      have HSZ := Lib.hid hsz
      clear hx hsz hc hg
      obtain ⟨b1, hb1⟩ : ∃ b, has all x = b := ⟨_, rfl⟩
      have HB1' := Lib.hid hb1
      obtain ⟨b2, hb2⟩ : ∃ b, has U x = b := ⟨_, rfl⟩
      have HB2 := Lib.hid hb2
      have HLS : Hid (LsAt 1 16 strR wr (.slice va m vc) U) := Lib.hid (by rw [← HM.out] at HR ⊢; exact OwnL.ls HR.out (by decide) (by have := HLN.out; have := HM.out; omega))
      clear hb1 hb2
      cases b1
      · have HE : Hid (addK all U x = U) := Lib.hid (by unfold addK; rw [HB1'.out]; rfl)
        go_wp2_with (go_at_call 27; (with_reducible refine (base_Has x all _ _ HA.out false HB1'.out).mono ?_); rintro e' x' ⟨rfl, hx'⟩; rw [hx']; clear hx' x')
        go_roundw
        case rel => exact ⟨i + 1, by go_num, by omega, HU1.out, by rw [HT.out, HE.out]; exact HR.out⟩
        case measure => simp [intOf]; omega
      · cases b2
        · have HE : Hid (addK all U x = U ++ [x]) := Lib.hid (by unfold addK; rw [HB1'.out, HB2.out]; rfl)
          go_wp2_with (first
            | (go_at_call 27; (with_reducible refine (base_Has x all _ _ HA.out true HB1'.out).mono ?_); rintro e' x' ⟨rfl, hx'⟩; rw [hx']; clear hx' x')
            | (go_at_call 27; (with_reducible refine (base_Has x U _ _ HLS.out false HB2.out).mono ?_); rintro e' x' ⟨rfl, hx'⟩; rw [hx']; clear hx' x')
            | (at_builtin; refine st_app (mm := 1) rowT_str strQ_one HM.out (by rfl) (H := OwnL.up (fun _ _ _ _ h _ => h) HR.out ((Up.refl _).alloc _)) (S := LsAt.one_str _ HSZ.out) (by have := HLN.out; omega) (by decide) (by have := HU1.out.size; simp only [World.size_alloc]; omega) (by rfl) (by rfl) ?_; intro ua uc w2 h1 h2 h3; have HR2 := Lib.hid h1; have HG2 := Lib.hid h2; have HO2 := Lib.hid h3; clear h1 h2 h3))
          go_roundw
          case rel => exact ⟨i + 1, by go_num, by omega, ((HU1.out.alloc _).grown' HG2.out fun k e => by have := HR.out.base k e; omega), by rw [HT.out, HE.out]; exact HR2.out⟩
          case measure => simp [intOf]; omega
        · have HE : Hid (addK all U x = U) := Lib.hid (by unfold addK; rw [HB1'.out, HB2.out]; rfl)
          go_wp2_with (first
            | (go_at_call 27; (with_reducible refine (base_Has x all _ _ HA.out true HB1'.out).mono ?_); rintro e' x' ⟨rfl, hx'⟩; rw [hx']; clear hx' x')
            | (go_at_call 27; (with_reducible refine (base_Has x U _ _ HLS.out true HB2.out).mono ?_); rintro e' x' ⟨rfl, hx'⟩; rw [hx']; clear hx' x'))
          go_roundw
          case rel => exact ⟨i + 1, by go_num, by omega, HU1.out, by rw [HT.out, HE.out]; exact HR.out⟩
          case measure => simp [intOf]; omega
    · obtain rfl : nn = i := by omega
      have HTK : Hid (names.take nn = names) := Lib.hid (List.take_of_length_le (by rw [HNN.out]; exact Nat.le_refl _))
      have HI0 : Hid (InvR all D names U 0) := Lib.hid (by rw [← HUE.out, HTK.out]; exact InvR.start all D names)
      go_wp2
      have HR0 := Lib.hid HR.out
      have HU10 := Lib.hid HU1.out
      clear HUE HR HU1 HUB HA HLN HM hlt HTK
      go_loopw [6, 8] (fun ov iv wr => ∃ (i : Nat) (S : List ByteArray), iv = .int .i64 i ∧ i ≤ S.length ∧ InvR all D names S i ∧ Up W1 wr ∧ OwnS W1.heap.size wr ov S) (fun _ iv _ => 80 - (intOf iv).toNat)
      case atStart => exact ⟨0, U, rfl, Nat.zero_le _, HI0.out, HU10.out, HR0.out⟩
      case round =>
        rename World => wr
        obtain ⟨i, S, rfl, hi, hinv, hup, hrow⟩ := hrel
        clear HR0 HU10 HI0
        have HU1 := Lib.hid hup
        have HW := Lib.hid (HW1.out.trans hup)
        have HI := Lib.hid hinv
        obtain ⟨sa, sc, rfl⟩ := hrow.shape
        have HR := Lib.hid hrow
        obtain ⟨sn, hsn⟩ : ∃ m, S.length = m := ⟨_, rfl⟩
        have HLN : Hid (sn ≤ 80) := Lib.hid (by have := hinv.len; rw [HAN.out, hsn] at this; omega)
        have hsn80 : sn ≤ 80 := HLN.out
        have hsnI : (sn : Int) ≤ 80 := by omega
        rw [hsn] at HR hi ⊢
        have HM := Lib.hid hsn
        clear hup hrow hsn hinv
        by_cases hlt : i < sn
        · have hltI : (i : Int) < sn := by omega
          have HS0 : Hid (LsAt 1 16 strR wr (.slice sa sn sc) S) := Lib.hid (by rw [← HM.out] at HR ⊢; exact OwnL.ls HR.out (by decide) (by have := HLN.out; have := HM.out; omega))
          have hi1 : i < S.length := by rw [HM.out]; exact hlt
          obtain ⟨g, o', rfl, hg, hsz, hc⟩ := HS0.out.txt i hi1
          have HNX := Lib.hid (HI.out.next hi1)
          have HPT := Lib.hid (fun k => HI.out.part hi1 k)
          obtain ⟨z, hz⟩ : ∃ z, S[i]'hi1 = z := ⟨_, rfl⟩
          rw [hz] at HNX HPT
          have hc1 := hc wr (Up.refl _)
          rw [hz] at hc1
          obtain ⟨L, hL⟩ : ∃ L, inF D z = L := ⟨_, rfl⟩
          obtain ⟨ln, hln⟩ : ∃ q, L.length = q := ⟨_, rfl⟩
          rw [hL] at HNX HPT
          have HLL := Lib.hid hln
          have HCI := Lib.hid (fun y (hy : Up w y) => Calls.strs (n := ln) (HIN.out z y hy) (by rw [hL]; exact hln))
          rw [hL] at HCI
          have c0 : wr.cell? ⟨w.heap.size, 0, none⟩ = some v0 := cell_of_row _ _ _ _ _ _ (HB1.out.up HU1.out)
          have c1 : wr.cell? ⟨w.heap.size, 1, none⟩ = some v1 := cell_of_row _ _ _ _ _ _ (HB1.out.up HU1.out)
          have c2 : wr.cell? ⟨w.heap.size, 2, none⟩ = some v2 := cell_of_row _ _ _ _ _ _ (HB1.out.up HU1.out)
          have c3 : wr.cell? ⟨w.heap.size, 3, none⟩ = some v3 := cell_of_row _ _ _ _ _ _ (HB1.out.up HU1.out)
          have c4 : wr.cell? ⟨w.heap.size, 4, none⟩ = some v4 := cell_of_row _ _ _ _ _ _ (HB1.out.up HU1.out)
          have bs : w.heap.size < wr.heap.size := (HB1.out.up HU1.out).lt
          clear hz hsz hc hL hln hi1
          go_upto_region 11 with fail
          refine wp_region_mk 6 (fun _ _ v x => ∃ a c, v = .slice a ln c ∧ LsN wr.heap.size x (.slice a ln c) L) (by kernel_rfl) (by kernel_rfl) ?_
          simp only [List.take_succ_cons, List.take_zero, List.drop_succ_cons, List.drop_zero]
          iterate 5 (refine wpMk_quiet anti_post (by kernel_rfl) ?_; go_big_quiet_step (fail); refine wpQuiet_nil ?_)
          refine wpMk_enter anti_post 13 #[.agg #[v0, v1, v2, v3, v4], .string z] (fun v x y ⟨a3, c3, h1, h2⟩ hu => ⟨a3, c3, h1, h2.up hu⟩) (by kernel_rfl) (fun x => by go_simp) (fun x hx => (HCI.out x (HW.out.trans hx)).mono fun e w' ⟨a, c, h1, h2, h3⟩ => ⟨_, h1, h2, a, c, rfl, h3.1, h3.2.mono hx.size⟩) ?_
          rintro v ⟨y, hy, a3, c3', rfl, hlx⟩
          simp only [Act.put, List.setIfInBounds_toArray, List.set_cons_succ, List.set_cons_zero]
          refine wpMk_nil ?_
          rintro W2 hW2 ⟨_, a4, c4', hR1, hNL⟩
          simp only [Value.slice.injEq, true_and] at hR1
          obtain ⟨rfl, rfl⟩ := hR1
          clear hy hlx
          have HNL := Lib.hid hNL
          have HWW := Lib.hid hW2
          have hlnI : (ln : Int) ≤ 140737488351232 := by have := hNL.1.bytes; rw [HLL.out] at this; omega
          have HR0 := Lib.hid (OwnL.up (fun _ _ _ _ h _ => h) HR.out hW2)
          have HSEP0 : Hid (ln = 0 ∨ ∃ b o, a3 = some ⟨b, o, none⟩ ∧ b < W2.heap.size ∧ (Value.slice (some ⟨g, o', none⟩) sn sc).ownBlock ≠ some b) := Lib.hid (by
            by_cases h0 : ln = 0
            · exact .inl h0
            · obtain ⟨g2, o2, rfl, hg2, _⟩ := hNL.1.txt 0 (by rw [HLL.out]; omega)
              have h2 := hNL.2 _ _ _ rfl
              refine .inr ⟨g2, o2, rfl, hg2, fun e => ?_⟩
              have : g = g2 := by simpa [Value.ownBlock] using e
              have h3 : wr.heap.size ≤ g2 := h2
              omega)
          have HU2 := Lib.hid (HU1.out.trans hW2)
          clear hNL hW2 c0 c1 c2 c3 c4 bs hc1 hg
          have HI2 := Lib.hid hi
          have HLT := Lib.hid hlt
          have HM0 := Lib.hid HM.out
          obtain ⟨j, hj⟩ : ∃ j, i = j := ⟨_, rfl⟩
          have HJ := Lib.hid hj
          rw [hj] at HI2 HLT HNX ⊢
          clear hi hlt hltI hj HI HLN HS0 HM HR
          go_wp2
          go_loopw [6, 10] (fun ov iv wr' => ∃ i : Nat, iv = .int .i64 i ∧ i ≤ ln ∧ Up W1 wr' ∧ LsAt 1 16 strR wr' (.slice a3 ln c3') L ∧ W2.heap.size ≤ wr'.heap.size ∧ (ln = 0 ∨ ∃ b o, a3 = some ⟨b, o, none⟩ ∧ b < W2.heap.size ∧ ov.ownBlock ≠ some b) ∧ OwnS W1.heap.size wr' ov ((L.take i).foldl (addK all) S)) (fun _ iv _ => ln - (intOf iv).toNat)
          case atStart => exact ⟨0, rfl, Nat.zero_le _, HU2.out, HNL.out.1, Nat.le_refl _, HSEP0.out, HR0.out⟩
          case round =>
            clear HR0
            rename World => wr
            obtain ⟨i, rfl, hi, hup, hls, hsz2, hsep, hrow⟩ := hrel
            have HU1 := Lib.hid hup
            have HUB := Lib.hid (Up.refl wr)
            have HNLw := Lib.hid hls
            have HSZ2 := Lib.hid hsz2
            clear hls hsz2
            have HA := Lib.hid (HA1.out.up strR_up HU1.out)
            obtain ⟨U, hU⟩ : ∃ U, (L.take i).foldl (addK all) S = U := ⟨_, rfl⟩
            have HUE := Lib.hid hU
            have HLN : Hid (U.length ≤ 80) := Lib.hid (by rw [← hU]; exact Nat.le_trans (HPT.out i) (by rw [HAN.out]; exact hanb))
            rw [hU] at hrow
            obtain ⟨va, vc, rfl⟩ := hrow.shape
            have HR := Lib.hid hrow
            obtain ⟨m, hm⟩ : ∃ m, U.length = m := ⟨_, rfl⟩
            rw [hm] at HR HLN ⊢
            have HM := Lib.hid hm
            rw [hm] at hsep
            have HSEP := Lib.hid hsep
            clear hup hrow hU hm hsep
            by_cases hlt : i < ln
            · have hltI : (i : Int) < ln := by omega
              have hi1 : i < L.length := by rw [HLL.out]; exact hlt
              obtain ⟨g, o, rfl, hg, hsz, hc⟩ := HNLw.out.txt i hi1
              have HT := Lib.hid (foldK_take (all := all) (u := S) HLL.out hlt)
              rw [HUE.out] at HT
              have hc1 := hc wr HUB.out
              have hg' := Nat.lt_of_lt_of_le hg HUB.out.size
              obtain ⟨x, hx⟩ : ∃ x, L[i]'hi1 = x := ⟨_, rfl⟩
              have HT : Hid ((L.take (i + 1)).foldl (addK all) S = addK all U x) := Lib.hid (by rw [← hx]; exact HT.out)
              rw [hx] at hsz hc1
              have HSZ := Lib.hid hsz
              clear hx hsz hc hg
              obtain ⟨b1, hb1⟩ : ∃ b, has all x = b := ⟨_, rfl⟩
              have HB1' := Lib.hid hb1
              obtain ⟨b2, hb2⟩ : ∃ b, has U x = b := ⟨_, rfl⟩
              have HB2 := Lib.hid hb2
              have HLS : Hid (LsAt 1 16 strR wr (.slice va m vc) U) := Lib.hid (by rw [← HM.out] at HR ⊢; exact OwnL.ls HR.out (by decide) (by have := HLN.out; have := HM.out; omega))
              clear hb1 hb2
              cases b1
              · have HE : Hid (addK all U x = U) := Lib.hid (by unfold addK; rw [HB1'.out]; rfl)
                go_wp2_with (go_at_call 27; (with_reducible refine (base_Has x all _ _ HA.out false HB1'.out).mono ?_); rintro e' x' ⟨rfl, hx'⟩; rw [hx']; clear hx' x')
                go_roundw
                case rel => exact ⟨i + 1, by go_num, by omega, HU1.out, HNLw.out, HSZ2.out, HSEP.out, by rw [HT.out, HE.out]; exact HR.out⟩
                case measure => simp [intOf]; omega
              · cases b2
                · have HE : Hid (addK all U x = U ++ [x]) := Lib.hid (by unfold addK; rw [HB1'.out, HB2.out]; rfl)
                  go_wp2_with (first
                    | (go_at_call 27; (with_reducible refine (base_Has x all _ _ HA.out true HB1'.out).mono ?_); rintro e' x' ⟨rfl, hx'⟩; rw [hx']; clear hx' x')
                    | (go_at_call 27; (with_reducible refine (base_Has x U _ _ HLS.out false HB2.out).mono ?_); rintro e' x' ⟨rfl, hx'⟩; rw [hx']; clear hx' x')
                    | (at_builtin; refine st_app (mm := 1) rowT_str strQ_one HM.out (by rfl) (H := OwnL.up (fun _ _ _ _ h _ => h) HR.out ((Up.refl _).alloc _)) (S := LsAt.one_str _ HSZ.out) (by have := HLN.out; omega) (by decide) (by have := HU1.out.size; simp only [World.size_alloc]; omega) (by rfl) (by rfl) ?_; intro ua uc w2 h1 h2 h3; have HR2 := Lib.hid h1; have HG2 := Lib.hid h2; have HO2 := Lib.hid h3; clear h1 h2 h3))
                  go_roundw
                  case rel => 
                    refine ⟨i + 1, by go_num, by omega, ((HU1.out.alloc _).grown' HG2.out fun k e => by have := HR.out.base k e; omega), ?_, ?_, ?_, by rw [HT.out, HE.out]; exact HR2.out⟩
                    · exact (HNLw.out.up strR_up ((Up.refl _).alloc _)).str_kept HG2.out fun a' n' c' e => by
                        have hs := HSEP.out
                        rcases hs with hs | ⟨b, o', hb1, hb2, hb3⟩
                        · omega
                        · cases e; cases hb1; exact fun e => hb3 e.symm
                    · have := HSZ2.out; have := HG2.out.size; simp only [World.size_alloc] at this; omega
                    · have hs := HSEP.out
                      rcases hs with hs | ⟨b, o', hb1, hb2, hb3⟩
                      · exact .inl hs
                      · refine .inr ⟨b, o', hb1, hb2, fun e => ?_⟩
                        rcases HO2.out with h | h
                        · exact hb3 (h.symm.trans e)
                        · rw [h] at e
                          have := HSZ2.out
                          simp only [World.size_alloc, Option.some.injEq] at e
                          omega
                  case measure => simp [intOf]; omega
                · have HE : Hid (addK all U x = U) := Lib.hid (by unfold addK; rw [HB1'.out, HB2.out]; rfl)
                  go_wp2_with (first
                    | (go_at_call 27; (with_reducible refine (base_Has x all _ _ HA.out true HB1'.out).mono ?_); rintro e' x' ⟨rfl, hx'⟩; rw [hx']; clear hx' x')
                    | (go_at_call 27; (with_reducible refine (base_Has x U _ _ HLS.out true HB2.out).mono ?_); rintro e' x' ⟨rfl, hx'⟩; rw [hx']; clear hx' x'))
                  go_roundw
                  case rel => exact ⟨i + 1, by go_num, by omega, HU1.out, HNLw.out, HSZ2.out, HSEP.out, by rw [HT.out, HE.out]; exact HR.out⟩
                  case measure => simp [intOf]; omega
            · obtain rfl : ln = i := by omega
              have HTK : Hid (L.take ln = L) := Lib.hid (List.take_of_length_le (by rw [HLL.out]; exact Nat.le_refl _))
              have HUE2 : Hid (L.foldl (addK all) S = U) := Lib.hid (by rw [← HUE.out, HTK.out])
              have hjI : (j : Int) < sn := by have := HLT.out; omega
              go_wp2
              go_roundw
              case rel =>
                refine ⟨j + 1, U, by go_num, ?_, by rw [← HUE2.out]; exact HNX.out, HU1.out, by have := HR.out; rw [← HM.out] at this ⊢; exact this⟩
                obtain ⟨T, hT⟩ := foldK_pre (all := all) (L := L) (acc := S)
                rw [← HUE2.out, hT, List.length_append]
                have := HM0.out
                have := HLT.out
                omega
              case measure => simp [intOf]; have := HJ.out; omega
        · obtain rfl : sn = i := by omega
          have HFL : Hid (all.filter (has S) = RF) := Lib.hid (HDN.out S (by rw [HM.out]; exact HI.out))
          have HS0 : Hid (LsAt 1 16 strR wr (.slice sa sn sc) S) := Lib.hid (by rw [← HM.out] at HR ⊢; exact OwnL.ls HR.out (by decide) (by have := HLN.out; have := HM.out; omega))
          go_wp2
          have HA3 := Lib.hid (HA1.out.up strR_up HU1.out)
          have HU13 := Lib.hid HU1.out
          obtain ⟨W3, hW3⟩ : ∃ x, wr = x := ⟨_, rfl⟩
          rw [hW3] at HA3 HU13 HS0 ⊢
          clear HU1 HW HI HR HLN hlt hi hsnI hW3
          go_loopw [11, 12] (fun ov iv wr' => ∃ i : Nat, iv = .int .i64 i ∧ i ≤ an ∧ Up W3 wr' ∧ OwnS W3.heap.size wr' ov ((all.take i).filter (has S))) (fun _ iv _ => an - (intOf iv).toNat)
          case atStart => exact ⟨0, rfl, Nat.zero_le _, Up.refl _, OwnL.nil⟩
          case round =>
            rename World => wr
            obtain ⟨i, rfl, hi, hup, hrow⟩ := hrel
            have HU3 := Lib.hid hup
            have HA := Lib.hid (HA3.out.up strR_up hup)
            have HS := Lib.hid (HS0.out.up strR_up hup)
            obtain ⟨U, hU⟩ : ∃ U, (all.take i).filter (has S) = U := ⟨_, rfl⟩
            have HUE := Lib.hid hU
            have HLN : Hid (U.length ≤ 80) := Lib.hid (by rw [← hU]; exact Nat.le_trans (List.length_filter_le _ _) (by rw [List.length_take, HAN.out]; omega))
            rw [hU] at hrow
            obtain ⟨va, vc, rfl⟩ := hrow.shape
            have HR := Lib.hid hrow
            obtain ⟨m, hm⟩ : ∃ m, U.length = m := ⟨_, rfl⟩
            rw [hm] at HR HLN ⊢
            have HM3 := Lib.hid hm
            clear hup hrow hU hm
            by_cases hlt : i < an
            · have hltI : (i : Int) < an := by omega
              have hi1 : i < all.length := by rw [HAN.out]; exact hlt
              obtain ⟨g, o, rfl, hg, hsz, hc⟩ := HA.out.txt i hi1
              have HT := Lib.hid (filter_take (f := has S) HAN.out hlt)
              rw [HUE.out] at HT
              have hc1 := hc wr (Up.refl _)
              obtain ⟨x, hx⟩ : ∃ x, all[i]'hi1 = x := ⟨_, rfl⟩
              have HT : Hid ((all.take (i + 1)).filter (has S) = if has S x = true then U ++ [x] else U) := Lib.hid (by rw [← hx]; exact HT.out)
              rw [hx] at hsz hc1
              have HSZ := Lib.hid hsz
              clear hx hsz hc hi1
              obtain ⟨b1, hb1⟩ : ∃ b, has S x = b := ⟨_, rfl⟩
              have HB1' := Lib.hid hb1
              clear hb1
              cases b1
              · have HE : Hid ((all.take (i + 1)).filter (has S) = U) := Lib.hid (by rw [HT.out, HB1'.out]; rfl)
                go_wp2_with (go_at_call 27; (with_reducible refine (base_Has x S _ _ HS.out false HB1'.out).mono ?_); rintro e' x' ⟨rfl, hx'⟩; rw [hx']; clear hx' x')
                go_roundw
                case rel => exact ⟨i + 1, by go_num, by omega, HU3.out, by rw [HE.out]; exact HR.out⟩
                case measure => simp [intOf]; omega
              · have HE : Hid ((all.take (i + 1)).filter (has S) = U ++ [x]) := Lib.hid (by rw [HT.out, HB1'.out]; rfl)
                go_wp2_with (first
                  | (go_at_call 27; (with_reducible refine (base_Has x S _ _ HS.out true HB1'.out).mono ?_); rintro e' x' ⟨rfl, hx'⟩; rw [hx']; clear hx' x')
                  | (at_builtin; refine st_app (mm := 1) rowT_str strQ_one HM3.out (by rfl) (H := OwnL.up (fun _ _ _ _ h _ => h) HR.out ((Up.refl _).alloc _)) (S := LsAt.one_str _ HSZ.out) (by have := HLN.out; omega) (by decide) (by have := HU3.out.size; simp only [World.size_alloc]; omega) (by rfl) (by rfl) ?_; intro ua uc w2 h1 h2 h3; have HR2 := Lib.hid h1; have HG2 := Lib.hid h2; have HO2 := Lib.hid h3; clear h1 h2 h3))
                go_roundw
                case rel => exact ⟨i + 1, by go_num, by omega, ((HU3.out.alloc _).grown' HG2.out fun k e => by have := HR.out.base k e; omega), by rw [HE.out]; exact HR2.out⟩
                case measure => simp [intOf]; omega
            · obtain rfl : an = i := by omega
              have HTK : Hid (all.take an = all) := Lib.hid (List.take_of_length_le (by rw [HAN.out]; exact Nat.le_refl _))
              have HRF : Hid (RF = U) := Lib.hid (by rw [← HFL.out, ← HUE.out, HTK.out])
              go_wp2
              go_ret
              refine ⟨_, rfl, HW1.out.trans (HU13.out.trans HU3.out), ?_⟩
              rw [HRF.out]
              exact OwnS.new (by have := HR.out; rw [← HM3.out] at this ⊢; exact this) ((HW1.out.trans HU13.out).size) (by have := HLN.out; have := HM3.out; omega)
end Go.Proofs.Ytpccaifhcmcegaa
