/-
  The reference 17: sizes. Printed by mkSo.py.
-/
import Derived.Test.YtpccaifhcmcegaaGreatHy
namespace Go.Proofs.YtpccaifhcmcegaaGreat
set_option linter.unusedSimpArgs false
open Go.ChangeShapes Go.WideShapes Go.ChangeAt Go.RowKit
set_option linter.unusedVariables false
set_option maxRecDepth 100000

set_option maxHeartbeats 16000000 in
theorem r17_sizes (N : Nat) (w : World) (pv : Value) (p : Pg) (hp : ProgAt N w pv p) (h1 : p.pars.length ≤ 40) (h2 : p.defs.length ≤ 40) (h3 : p.outs.length ≤ 40) (h4 : p.cons.length ≤ 80) :
    Calls Tryz.prog 22 #[pv] w fun e w' => ErrQ True w e w' := by
  obtain ⟨sa, sc, ca, cc, pa, pc, da, dc, oa, oc, rfl, hs, hcn, hpp, hd, ho⟩ := hp.open
  obtain ⟨sizes, cons, pars, defs, outs⟩ := p
  dsimp only at *
  obtain ⟨sn, hsn⟩ : ∃ q, sizes.length = q := ⟨_, rfl⟩
  obtain ⟨cn, hcnn⟩ : ∃ q, cons.length = q := ⟨_, rfl⟩
  obtain ⟨pn, hpn⟩ : ∃ q, pars.length = q := ⟨_, rfl⟩
  obtain ⟨dn, hdn⟩ : ∃ q, defs.length = q := ⟨_, rfl⟩
  obtain ⟨on_, hon⟩ : ∃ q, outs.length = q := ⟨_, rfl⟩
  have hsnI : (sn : Int) ≤ 140737488351232 := by have := hs.bytes; omega
  have hcnI : (cn : Int) ≤ 140737488351232 := by have := hcn.bytes; omega
  have hpnI : (pn : Int) ≤ 140737488351232 := by have := hpp.bytes; omega
  have hdnI : (dn : Int) ≤ 140737488351232 := by have := hd.bytes; omega
  have honI : (on_ : Int) ≤ 140737488351232 := by have := ho.bytes; omega
  rw [hsn] at hs hp
  rw [hcnn] at hcn hp
  rw [hpn] at hpp hp
  rw [hdn] at hd hp
  rw [hon] at ho hp
  rw [hsn, hcnn, hpn, hdn, hon]
  have HPG := Lib.hid hp
  have HS := Lib.hid hs
  have HC := Lib.hid hcn
  have HP := Lib.hid hpp
  have HD := Lib.hid hd
  have HO := Lib.hid ho
  have HSN := Lib.hid hsn
  have HCN := Lib.hid hcnn
  have HPN := Lib.hid hpn
  have HDN := Lib.hid hdn
  have HON := Lib.hid hon
  clear hs hcn hpp hd ho hsn hcnn hpn hdn hon hp

  rw [HPN.out] at h1
  rw [HDN.out] at h2
  rw [HON.out] at h3
  rw [HCN.out] at h4
  have d1 : decide ((64 : Int) < pn) = false := decide_eq_false (by omega)
  have d2 : decide ((64 : Int) < dn) = false := decide_eq_false (by omega)
  have d3 : decide ((64 : Int) < on_) = false := decide_eq_false (by omega)
  have d4 : decide ((256 : Int) < cn) = false := decide_eq_false (by omega)
  have HU := Lib.hid ((Up.refl w).alloc (.cells #[.slice sa sn sc, .slice ca cn cc, .slice pa pn pc, .slice da dn dc, .slice oa on_ oc] 27))
  have HB := Lib.hid (BoxC.new w 27 #[.slice sa sn sc, .slice ca cn cc, .slice pa pn pc, .slice da dn dc, .slice oa on_ oc])
  have hcap : sn ≤ sc := by
    obtain ⟨a', c', e, h⟩ := HS.out.shape
    simp only [Value.slice.injEq] at e
    have := HSN.out
    omega
  have HCAP := Lib.hid hcap
  clear h1 h2 h3 h4 hcap
  by_cases hs6 : (64 : Int) < sn
  · have d0 : decide ((64 : Int) < sn) = true := decide_eq_true hs6
    go_enter Tryz.func22, Tryz.ntmps22
    go_wp2
    go_ret
    exact ⟨2, rfl, HU.out, fun _ => trivial⟩
  have d0 : decide ((64 : Int) < sn) = false := decide_eq_false hs6
  clear hs6
  go_enter Tryz.func22, Tryz.ntmps22
  go_wp2
  clear d0 d1 d2 d3 d4
  go_loopw [3] (fun iv y => ∃ i : Nat, iv = .int .i64 i ∧ i ≤ sn ∧ Up w y ∧ BoxC y w.heap.size 27 #[.slice sa sn sc, .slice ca cn cc, .slice pa pn pc, .slice da dn dc, .slice oa on_ oc]) (fun iv _ => sn - (intOf iv).toNat)
  case atStart => exact ⟨0, rfl, Nat.zero_le _, HU.out, HB.out⟩
  case round =>
    clear HU HB
    rename World => y
    obtain ⟨i, rfl, hi, hup, hb⟩ := hrel
    have HUY := Lib.hid hup
    have HBY := Lib.hid hb
    have b0 : y.cell? ⟨w.heap.size, 0, none⟩ = some (.slice sa sn sc) := cell_of_row _ _ _ _ _ _ hb
    have bs := hb.lt
    clear hup hb
    by_cases hlt : i < sn
    · have hltI : (i : Int) < sn := by omega
      have hicI : (i : Int) ≤ sc := by have := HCAP.out; omega
      have hi1 : i < sizes.length := by rw [HSN.out]; exact hlt
      obtain ⟨g, o, rfl, hg, hc, hsz⟩ := HS.out.str i hi1
      obtain ⟨s, hs⟩ : ∃ s, sizes[i] = s := ⟨_, rfl⟩
      rw [hs] at hc hsz
      have c0 := cell_up' HUY.out hg hc
      have gs := Nat.lt_of_lt_of_le hg HUY.out.size
      have HNM := Lib.hid (fun z (hz : Up w z) => r17_name z s (.slice (some ⟨g, o, none⟩) i sc) (sizes.take i) ((HS.out.take i (by rw [HSN.out]; exact hi)).up strR_up hz) _ rfl)
      obtain ⟨f, hf⟩ : ∃ q, nameE s (sizes.take i) = q := ⟨_, rfl⟩
      rw [hf] at HNM
      clear hi1 hs hc hsz hg hf
      go_upto_region 6 with fail
      refine wp_region_ext (by kernel_rfl) (by kernel_rfl) ?_
      repeat (go_big_quiet_step ((go_at_call 40; exact Calls.ext_of (HNM.out _ (HUY.out.trans (Ext.up _))))))
      refine wpQuiet_nil ?_
      intro z hz
      have HUZ := Lib.hid (HUY.out.trans hz)
      have HBZ := Lib.hid (HBY.out.up hz)
      clear hz gs c0 b0 bs
      by_cases hf0 : f = 0
      · subst hf0
        go_wp2
        go_roundw
        case rel => exact ⟨i + 1, by go_num, by omega, HUZ.out, HBZ.out⟩
        case measure => simp [intOf]; omega
      · have e1 : (f == 0) = false := by simpa using hf0
        have e2 : (f != 0) = true := by simpa using hf0
        clear hf0
        go_wp2
        go_ret
        exact ⟨f, rfl, HUZ.out, fun _ => trivial⟩
    · have hltI : ¬ (i : Int) < sn := by omega
      go_wp2
      go_ret
      exact ⟨0, rfl, HUY.out, fun _ => trivial⟩
end Go.Proofs.YtpccaifhcmcegaaGreat
