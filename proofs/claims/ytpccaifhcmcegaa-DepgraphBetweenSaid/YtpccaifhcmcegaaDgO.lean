/-
  ordered of the reference 20. Printed by mkDgO.py.
-/
import Derived.Test.YtpccaifhcmcegaaGf
import Derived.Test.YtpccaifhcmcegaaDgU
namespace Go.Proofs.Ytpccaifhcmcegaa
set_option linter.unusedSimpArgs false
open Go.ChangeShapes Go.WideShapes Go.ChangeAt Go.RowKit
set_option linter.unusedVariables false
set_option maxRecDepth 100000

/-- A parameter of a list: its name's cell. -/
theorem LsAt.par {w : World} {a : Option Addr} {n c : Nat} {l : List Par} (h : LsAt 7 80 parR w (.slice a n c) l) (i : Nat) (hi : i < l.length) :
    ∃ (g o : Nat) (cs : Array Value), a = some ⟨g, o, none⟩ ∧ g < w.heap.size ∧ CsAt 7 parR w cs l[i] ∧ (∀ y, Up w y → y.rangeAt g (o + i * 7) cs.toList) ∧ cs.getD 0 undef = .string l[i].1 ∧ l[i].1.size ≤ maxLen ∧ ∀ y, Up w y → y.cell? ⟨g, o + i * 7, none⟩ = some (.string l[i].1) := by
  obtain ⟨g, o, cs, e, hg, hc, hr⟩ := h.row parR_k i hi
  have h0 : cs.getD 0 undef = .string l[i].1 := hc.2.1.1
  refine ⟨g, o, cs, e, hg, hc, hr, h0, hc.2.1.2, fun y hy => ?_⟩
  have := hr y hy 0 (.string l[i].1) (by
    rw [← h0, Array.getElem?_toList, Array.getD_eq_getD_getElem?, Array.getElem?_eq_getElem (by rw [hc.1]; decide)]; rfl)
  exact this
/-- Names laid behind a list, each once. -/
theorem addU_take {α : Type} {f : α → ByteArray} {l : List α} {u : List ByteArray} {i n : Nat} (hn : l.length = n) (hi : i < n) : ((l.take (i + 1)).map f).foldl addU u = addU (((l.take i).map f).foldl addU u) (f (l[i]'(by omega))) := by
  subst hn
  rw [List.take_succ_eq_append_getElem hi, List.map_append, List.foldl_append]; rfl
def pnF (l : List Par) : List ByteArray := l.map (·.1)
def dnF (l : List Df) : List ByteArray := l.map (·.nm)
/-- All names in program order. -/
def ordF (p : Pg) : List ByteArray := (p.defs.map (·.nm)).foldl addU ((p.pars.map (·.1)).foldl addU [])
theorem ordF_len (p : Pg) : (ordF p).length ≤ p.pars.length + p.defs.length := by
  have h1 := foldl_addU_len (p.defs.map (·.nm)) ((p.pars.map (·.1)).foldl addU [])
  have h2 := foldl_addU_len (p.pars.map (·.1)) []
  rw [List.length_map] at h1 h2
  rw [List.length_nil] at h2
  unfold ordF; omega

set_option maxHeartbeats 8000000 in
theorem r20_ordered (N : Nat) (p : Pg) (v : Value) (w : World) (hv : ProgAt N w v p) (hsm : p.pars.length ≤ 40 ∧ p.defs.length ≤ 40) :
    Calls Try.prog 36 #[v] w fun e w' => ∃ u, e = .returned u ∧ Up w w' ∧ NewS w w' u (ordF p) := by
  obtain ⟨sa, sc, ca, cc, pa, pc, da, dc, oa, oc, rfl, hs, hcn, hp, hd, ho⟩ := hv.open
  obtain ⟨sizes, cons, pars, defs, outs⟩ := p
  dsimp only at *
  obtain ⟨sn, hsn⟩ : ∃ q, sizes.length = q := ⟨_, rfl⟩
  obtain ⟨cn, hcnn⟩ : ∃ q, cons.length = q := ⟨_, rfl⟩
  obtain ⟨pn, hpn⟩ : ∃ q, pars.length = q := ⟨_, rfl⟩
  obtain ⟨dn, hdn⟩ : ∃ q, defs.length = q := ⟨_, rfl⟩
  obtain ⟨on_, hon⟩ : ∃ q, outs.length = q := ⟨_, rfl⟩
  rw [hsn] at hs hv ⊢
  rw [hcnn] at hcn hv ⊢
  rw [hpn] at hp hv ⊢
  rw [hdn] at hd hv ⊢
  rw [hon] at ho hv ⊢
  have hdI : (dn : Int) ≤ 140737488351232 := by have := hd.bytes; rw [hdn] at this; omega
  have hpI : (pn : Int) ≤ 140737488351232 := by have := hp.bytes; rw [hpn] at this; omega
  have HV := Lib.hid hv
  have HS := Lib.hid hs
  have HC := Lib.hid hcn
  have HP := Lib.hid hp
  have HD := Lib.hid hd
  have HO := Lib.hid ho
  have HPN := Lib.hid hpn
  have HDN := Lib.hid hdn
  have HON := Lib.hid hon
  clear hs hcn hp hd ho hsn hcnn hpn hdn hon hv
  have HSM : Hid (pn ≤ 40 ∧ dn ≤ 40) := Lib.hid (by rw [← HPN.out, ← HDN.out]; exact hsm)
  have HORD : Hid (ordF ⟨sizes, cons, pars, defs, outs⟩ = (defs.map (·.nm)).foldl addU ((pars.map (·.1)).foldl addU [])) := Lib.hid rfl
  obtain ⟨O, hO⟩ : ∃ O, ordF ⟨sizes, cons, pars, defs, outs⟩ = O := ⟨_, rfl⟩
  rw [hO] at HORD ⊢
  clear hsm hO
  have HU0 : Hid (Up w (w.alloc (.cells #[.slice sa sn sc, .slice ca cn cc, .slice pa pn pc, .slice da dn dc, .slice oa on_ oc] 27))) := Lib.hid ((Up.refl w).alloc _)
  have HB0 := Lib.hid (BoxC.new w 27 #[.slice sa sn sc, .slice ca cn cc, .slice pa pn pc, .slice da dn dc, .slice oa on_ oc])
  go_enter Try.func36, Try.ntmps36
  go_wp2
  have HUL : Hid (([] : List ByteArray).length ≤ 0) := Lib.hid (Nat.le_refl _)
  go_loopw [3, 4] (fun ov iv wr => ∃ i : Nat, iv = .int .i64 i ∧ i ≤ pn ∧ Up w wr ∧ BoxC wr w.heap.size 27 #[.slice sa sn sc, .slice ca cn cc, .slice pa pn pc, .slice da dn dc, .slice oa on_ oc] ∧ OwnS (w.heap.size + 1) wr ov (((pars.take i).map (·.1)).foldl addU [])) (fun _ iv _ => pn - (intOf iv).toNat)
  case atStart => exact ⟨0, rfl, Nat.zero_le _, HU0.out, HB0.out, OwnL.nil⟩
  case round =>
    rename World => wr
    obtain ⟨i, rfl, hi, hup, hbx, hrow⟩ := hrel
    have HU := Lib.hid hup
    have HB := Lib.hid hbx
    have bx : wr.cell? ⟨w.heap.size, 2, none⟩ = some (.slice pa pn pc) := cell_of_row _ _ _ _ _ _ hbx
    have bs : w.heap.size < wr.heap.size := hbx.lt
    obtain ⟨U, hU⟩ : ∃ U, (((pars.take i).map (fun x : Par => x.1)).foldl addU []) = U := ⟨_, rfl⟩
    have HUE := Lib.hid hU
    have HLN : Hid (U.length ≤ 80) := Lib.hid (by
      rw [← hU]
      have h1 := foldl_addU_len ((pars.take i).map (fun x : Par => x.1)) []
      rw [List.length_map, List.length_take] at h1
      have h2 := HUL.out
      have h3 := HSM.out
      omega)
    rw [hU] at hrow
    obtain ⟨va, vc, rfl⟩ := hrow.shape
    have HR := Lib.hid hrow
    obtain ⟨m, hm⟩ : ∃ m, U.length = m := ⟨_, rfl⟩
    rw [hm] at HR HLN ⊢
    have HM := Lib.hid hm
    clear hup hbx hrow hU hm
    by_cases hlt : i < pn
    · have hltI : (i : Int) < pn := by omega
      have hi1 : i < pars.length := by rw [HPN.out]; exact hlt
      obtain ⟨g, o, cs, rfl, hg, _, _, _, hsz, hc⟩ := HP.out.par i hi1
      have HT := Lib.hid (addU_take (f := (fun x : Par => x.1)) (u := []) HPN.out hlt)
      rw [HUE.out] at HT
      have hc1 := hc wr HU.out
      have hg' := Nat.lt_of_lt_of_le hg HU.out.size
      obtain ⟨x, hx⟩ : ∃ x, (fun x : Par => x.1) (pars[i]'hi1) = x := ⟨_, rfl⟩
      have HT : Hid (((pars.take (i + 1)).map (fun x : Par => x.1)).foldl addU [] = addU U x) := Lib.hid (by rw [← hx]; exact HT.out)
      dsimp only at hx
      rw [hx] at hsz hc1
      have HSZ := Lib.hid hsz
      clear hx hsz hc
      obtain ⟨b, hb⟩ : ∃ b, has U x = b := ⟨_, rfl⟩
      have HBB := Lib.hid hb
      have HLS : Hid (LsAt 1 16 strR wr (.slice va m vc) U) := Lib.hid (by rw [← HM.out] at HR ⊢; exact OwnL.ls HR.out (by decide) (by have := HLN.out; have := HM.out; omega))
      cases b
      · have HA : Hid (addU U x = U ++ [x]) := Lib.hid (by unfold addU; rw [HBB.out]; rfl)
        clear hb
        go_wp2_with (first
          | (go_at_call 27; (with_reducible refine (base_Has x U _ _ HLS.out false HBB.out).mono ?_); rintro e' x' ⟨rfl, hx'⟩; rw [hx']; clear hx' x')
          | (at_builtin; refine st_app (mm := 1) rowT_str strQ_one HM.out (by rfl) (H := OwnL.up (fun _ _ _ _ h _ => h) HR.out ((Up.refl _).alloc _)) (S := LsAt.one_str _ HSZ.out) (by have := HLN.out; omega) (by decide) (by have := HU.out.size; simp only [World.size_alloc]; omega) (by rfl) (by rfl) ?_; intro ua uc w2 h1 h2 h3; have HR2 := Lib.hid h1; have HG2 := Lib.hid h2; clear h1 h2 h3))
        go_roundw
        case rel =>
          refine ⟨i + 1, by go_num, by omega, ((HU.out.alloc _).grown' HG2.out fun k e => by have := HR.out.base k e; omega), (HB.out.up ((Up.refl _).alloc _)).kept HG2.out (fun e => by have := HR.out.base _ e.symm; omega), ?_⟩
          rw [HT.out, HA.out]; exact HR2.out
        case measure => simp [intOf]; omega
      · have HA : Hid (addU U x = U) := Lib.hid (by unfold addU; rw [HBB.out]; rfl)
        clear hb
        go_wp2_with (go_at_call 27; (with_reducible refine (base_Has x U _ _ HLS.out true HBB.out).mono ?_); rintro e' x' ⟨rfl, hx'⟩; rw [hx']; clear hx' x')
        go_roundw
        case rel =>
          refine ⟨i + 1, by go_num, by omega, HU.out, HB.out, ?_⟩
          rw [HT.out, HA.out]; exact HR.out
        case measure => simp [intOf]; omega
    · obtain rfl : pn = i := by omega
      have HTK : Hid (pars.take pn = pars) := Lib.hid (List.take_of_length_le (by rw [HPN.out]; exact Nat.le_refl _))
      rw [HTK.out] at HUE
      obtain ⟨W1, hW1⟩ : ∃ x, x = wr := ⟨_, rfl⟩
      go_wp2
      clear HUL
      have HUL : Hid (U.length ≤ 40) := Lib.hid (by
        rw [← HUE.out]
        have h1 := foldl_addU_len (pars.map (·.1)) []
        rw [List.length_map, HPN.out] at h1
        have h3 := HSM.out
        simp only [List.length_nil] at h1
        omega)
      have HR0 := Lib.hid HR.out
      have HU1 := Lib.hid HU.out
      have HB1 := Lib.hid HB.out
      have HU0E : Hid ((pars.map (·.1)).foldl addU [] = U) := Lib.hid HUE.out
      obtain ⟨U0, hU0⟩ : ∃ U0, U = U0 := ⟨_, rfl⟩
      rw [hU0] at HUL HR0 HU0E
      clear HUE HR HU HB bx bs HLN HM hU0 hW1 hlt
      go_loopw [3, 5] (fun ov iv wr => ∃ i : Nat, iv = .int .i64 i ∧ i ≤ dn ∧ Up w wr ∧ BoxC wr w.heap.size 27 #[.slice sa sn sc, .slice ca cn cc, .slice pa pn pc, .slice da dn dc, .slice oa on_ oc] ∧ OwnS (w.heap.size + 1) wr ov (((defs.take i).map (·.nm)).foldl addU U0)) (fun _ iv _ => dn - (intOf iv).toNat)
      case atStart => exact ⟨0, rfl, Nat.zero_le _, HU1.out, HB1.out, HR0.out⟩
      case round =>
        clear HR0 HU1 HB1
        rename World => wr
        obtain ⟨i, rfl, hi, hup, hbx, hrow⟩ := hrel
        have HU := Lib.hid hup
        have HB := Lib.hid hbx
        have bx : wr.cell? ⟨w.heap.size, 3, none⟩ = some (.slice da dn dc) := cell_of_row _ _ _ _ _ _ hbx
        have bs : w.heap.size < wr.heap.size := hbx.lt
        obtain ⟨U, hU⟩ : ∃ U, (((defs.take i).map (fun x : Df => x.nm)).foldl addU U0) = U := ⟨_, rfl⟩
        have HUE := Lib.hid hU
        have HLN : Hid (U.length ≤ 80) := Lib.hid (by
          rw [← hU]
          have h1 := foldl_addU_len ((defs.take i).map (fun x : Df => x.nm)) U0
          rw [List.length_map, List.length_take] at h1
          have h2 := HUL.out
          have h3 := HSM.out
          omega)
        rw [hU] at hrow
        obtain ⟨va, vc, rfl⟩ := hrow.shape
        have HR := Lib.hid hrow
        obtain ⟨m, hm⟩ : ∃ m, U.length = m := ⟨_, rfl⟩
        rw [hm] at HR HLN ⊢
        have HM := Lib.hid hm
        clear hup hbx hrow hU hm
        by_cases hlt : i < dn
        · have hltI : (i : Int) < dn := by omega
          have hi1 : i < defs.length := by rw [HDN.out]; exact hlt
          obtain ⟨g, o, cs, rfl, hg, _, _, _, hsz, hc⟩ := HD.out.defn i hi1
          have HT := Lib.hid (addU_take (f := (fun x : Df => x.nm)) (u := U0) HDN.out hlt)
          rw [HUE.out] at HT
          have hc1 := hc wr HU.out
          have hg' := Nat.lt_of_lt_of_le hg HU.out.size
          obtain ⟨x, hx⟩ : ∃ x, (fun x : Df => x.nm) (defs[i]'hi1) = x := ⟨_, rfl⟩
          have HT : Hid (((defs.take (i + 1)).map (fun x : Df => x.nm)).foldl addU U0 = addU U x) := Lib.hid (by rw [← hx]; exact HT.out)
          dsimp only at hx
          rw [hx] at hsz hc1
          have HSZ := Lib.hid hsz
          clear hx hsz hc
          obtain ⟨b, hb⟩ : ∃ b, has U x = b := ⟨_, rfl⟩
          have HBB := Lib.hid hb
          have HLS : Hid (LsAt 1 16 strR wr (.slice va m vc) U) := Lib.hid (by rw [← HM.out] at HR ⊢; exact OwnL.ls HR.out (by decide) (by have := HLN.out; have := HM.out; omega))
          cases b
          · have HA : Hid (addU U x = U ++ [x]) := Lib.hid (by unfold addU; rw [HBB.out]; rfl)
            clear hb
            go_wp2_with (first
              | (go_at_call 27; (with_reducible refine (base_Has x U _ _ HLS.out false HBB.out).mono ?_); rintro e' x' ⟨rfl, hx'⟩; rw [hx']; clear hx' x')
              | (at_builtin; refine st_app (mm := 1) rowT_str strQ_one HM.out (by rfl) (H := OwnL.up (fun _ _ _ _ h _ => h) HR.out ((Up.refl _).alloc _)) (S := LsAt.one_str _ HSZ.out) (by have := HLN.out; omega) (by decide) (by have := HU.out.size; simp only [World.size_alloc]; omega) (by rfl) (by rfl) ?_; intro ua uc w2 h1 h2 h3; have HR2 := Lib.hid h1; have HG2 := Lib.hid h2; clear h1 h2 h3))
            go_roundw
            case rel =>
              refine ⟨i + 1, by go_num, by omega, ((HU.out.alloc _).grown' HG2.out fun k e => by have := HR.out.base k e; omega), (HB.out.up ((Up.refl _).alloc _)).kept HG2.out (fun e => by have := HR.out.base _ e.symm; omega), ?_⟩
              rw [HT.out, HA.out]; exact HR2.out
            case measure => simp [intOf]; omega
          · have HA : Hid (addU U x = U) := Lib.hid (by unfold addU; rw [HBB.out]; rfl)
            clear hb
            go_wp2_with (go_at_call 27; (with_reducible refine (base_Has x U _ _ HLS.out true HBB.out).mono ?_); rintro e' x' ⟨rfl, hx'⟩; rw [hx']; clear hx' x')
            go_roundw
            case rel =>
              refine ⟨i + 1, by go_num, by omega, HU.out, HB.out, ?_⟩
              rw [HT.out, HA.out]; exact HR.out
            case measure => simp [intOf]; omega
        · obtain rfl : dn = i := by omega
          have HTK2 : Hid (defs.take dn = defs) := Lib.hid (List.take_of_length_le (by rw [HDN.out]; exact Nat.le_refl _))
          rw [HTK2.out] at HUE
          go_wp2
          go_ret
          refine ⟨_, rfl, HU.out, ?_⟩
          rw [HORD.out, HU0E.out, HUE.out]
          exact OwnS.new HR.out (Nat.le_succ _) (by have := HLN.out; have := HM.out; omega)
end Go.Proofs.Ytpccaifhcmcegaa
