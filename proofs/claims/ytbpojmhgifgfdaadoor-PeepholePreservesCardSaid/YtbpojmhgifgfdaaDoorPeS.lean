/-
  reachable, of both sides: one plain walk. Printed by mkPeS.py.
-/
import Derived.Test.YtbpojmhgifgfdaaDoorPeH
namespace Go.Proofs.YtbpojmhgifgfdaaDoor
open Go.ChangeShapes Go.WideShapes Go.ChangeAt Go.RowKit
set_option linter.unusedVariables false
set_option linter.unusedSimpArgs false
set_option maxRecDepth 100000

theorem reachG_skip {l : List Ins} {f : Nat} {sn : List Bool} {p : Int} {st : List Int} {r : List Bool} (h : reachG l (f + 1) sn (p :: st) = r) (hc : p < 0 ∨ (l.length : Int) ≤ p ∨ sn.getD p.toNat true = true) : reachG l f sn st = r := by
  rw [reachG_cons, if_pos hc] at h; exact h
theorem reachG_push {l : List Ins} {f : Nat} {sn : List Bool} {k : Nat} {st : List Int} {r : List Bool} (h : reachG l (f + 1) sn ((k : Int) :: st) = r) (h1 : k < l.length) (h2 : sn.getD k true = false) : reachG l f (sn.set k true) ((succF (l.getD k i0) k).reverse ++ st) = r := by
  rw [reachG_cons, if_neg (by rw [Int.toNat_natCast, h2]; simp; omega), Int.toNat_natCast] at h; exact h
theorem rev_push (st ls : List Int) : intV st.reverse ++ intV ls = intV (ls.reverse ++ st).reverse := by simp [intV]


set_option maxHeartbeats 8000000 in
theorem pe_reachable (v : Value) (l : List Ins) (w : World) (hv : InsAt w v l) (hlen : l.length ≤ 100000) :
    Calls Tryd.prog 24 #[v] w fun e w' => ∃ v', e = .returned v' ∧ Up w w' ∧ BoolsAt w' v' (reachF l) ∧ (reachF l).length = l.length := by
  obtain ⟨ib, hib, bz0, bz1, bz2⟩ := info_parts bool_info
  obtain ⟨ii, hii, iz0, iz1, iz2⟩ := info_parts int_info
  obtain ⟨r, hr⟩ : ∃ r, reachF l = r := ⟨_, rfl⟩
  rw [hr]
  have HV := Lib.hid hv
  obtain ⟨⟨a, cap, rfl⟩, hmax⟩ := hv.slice
  obtain ⟨n, hn⟩ : ∃ n, l.length = n := ⟨_, rfl⟩
  rw [hn] at hmax hlen ⊢
  have HN := Lib.hid hn
  have HR : Hid (reachG l (3 * n + 1) (List.replicate n false) [0] = r) := Lib.hid (by rw [← hr, reachF, hn])
  obtain ⟨B, hB⟩ : ∃ B, w.heap.size = B := ⟨_, rfl⟩
  have HB := Lib.hid hB
  clear hn hr hv hB
  have hmI : (n : Int) ≤ 100000 := by omega
  go_enter Tryd.func24, Tryd.ntmps24
  go_wp2_with (at_make; refine wpList_make_full _ rfl _ _ 65 rfl B 4 ib (.bool false) 1 Tryd.underlying65 hib bz0 bz1 .i64 .i64 _ _ n rfl rfl rfl rfl (by rw [bz2]; omega) (by unfold maxLen; omega) (by have := HB.out; omega) ?_; intro w0 hown0 hgrow0; have HO0 := Lib.hid hown0; have HG0 := Lib.hid hgrow0; clear hown0 hgrow0)
  have HU0 : Hid (Up w w0) := Lib.hid ((Up.refl w).grown HG0.out (fun g hg => by cases hg))
  have HOB : Hid (w0.ownsRow B 4 1 (.slice (some ⟨w.heap.size, 0, none⟩) n n) n (boolV (List.replicate n false))) := Lib.hid (boolV_rep n ▸ HO0.out)
  obtain ⟨gs, hgs⟩ : ∃ gs, w.heap.size = gs := ⟨_, rfl⟩
  rw [hgs] at HOB
  have hgsB : B = gs := by rw [← HB.out, hgs]
  clear HO0 HG0
  simp only [hgs]
  go_loopw [4] (fun wv wr => ∃ (m f : Nat) (st : List Int) (sn : List Bool), st.length = m ∧ sn.length = n ∧ 3 * unseen sn + m ≤ f ∧ f ≤ 3 * n + 1 ∧ wr.ownsRow B 3 1 wv m (intV st.reverse) ∧ wr.ownsRow B 4 1 (.slice (some ⟨gs, 0, none⟩) n n) n (boolV sn) ∧ reachG l f sn st = r ∧ Up w wr) (fun wv wr => 3 * unW wr gs n + (lenOfV wv))
  case atStart => exact ⟨1, 3 * n + 1, [0], List.replicate n false, rfl, List.length_replicate, by simp [unseen, List.count_replicate], Nat.le_refl _, own_one (by have := HU0.out.size; have := HB.out; omega) _ _, own_up' HOB.out ((Up.refl w0).alloc _), HR.out, HU0.out.alloc _⟩
  case round =>
    rename World => wr
    obtain ⟨m, f, st, sn, hm, hsn, hfu, hfn, hown, hmk, hf, hU⟩ := hrel
    obtain ⟨va, vc, rfl⟩ := own_slice hown
    have HMK := Lib.hid hmk
    have HSN := Lib.hid hsn
    have HU := Lib.hid hU
    have HF := Lib.hid hf
    clear hmk hsn hU hf
    cases st with
    | nil =>
      obtain rfl : m = 0 := by simpa using hm.symm
      have HG : Hid (r = sn) := Lib.hid (by rw [← HF.out, reachG_nil])
      clear HR
      go_wp2
      go_ret
      exact ret_v ⟨HU.out, HG.out ▸ BoolsAt.own HMK.out HSN.out (by omega), HG.out ▸ HSN.out⟩
    | cons p st =>
      obtain ⟨m', rfl⟩ : ∃ m', m = m' + 1 := ⟨st.length, by simpa using hm.symm⟩
      have hm2 : st.length = m' := by simpa using hm
      obtain ⟨f', rfl⟩ : ∃ f', f = f' + 1 := ⟨f - 1, by omega⟩
      rw [List.reverse_cons, intV_app] at hown
      obtain ⟨gw, cw, hvv, hgwB, hgw, hcw, hfr, hcell⟩ := own_get hown (by omega)
      cases hvv
      have hc0 : wr.cell? ⟨gw, m', none⟩ = some (.int .i64 p) := hcell m' _ (by rw [List.getElem?_append_right (by rw [intV_len, List.length_reverse]; omega), intV_len, List.length_reverse, hm2, Nat.sub_self]; rfl)
      have HOP := Lib.hid (own_pop hown)
      have hm3 : (m' : Int) ≤ 400000 := by omega
      have hm4 : (0 : Int) ≤ m' := by omega
      have HMU := Lib.hid (unW_eq HMK.out HSN.out)
      have HM2 := Lib.hid hm2
      clear hcell hown hm hm2 HR
      by_cases h1 : p < 0
      · have HG := Lib.hid (reachG_skip HF.out (.inl h1))
        go_wp2
        exact ⟨⟨m', f', st, sn, HM2.out, HSN.out, by omega, by omega, HOP.out, HMK.out, HG.out, HU.out⟩, by simp [lenOfV]⟩
      by_cases h2 : (n : Int) ≤ p
      · have HG := Lib.hid (reachG_skip HF.out (.inr (.inl (by rw [HN.out]; exact h2))))
        have h1' : 0 ≤ p := by omega
        go_wp2
        exact ⟨⟨m', f', st, sn, HM2.out, HSN.out, by omega, by omega, HOP.out, HMK.out, HG.out, HU.out⟩, by simp [lenOfV]⟩
      obtain ⟨k, rfl⟩ : ∃ k : Nat, p = k := ⟨p.toNat, by omega⟩
      have hk : k < n := by omega
      have hkI : (k : Int) < n := by omega
      obtain ⟨gs', cs', hvs, _, hgs2, _, hfr2, hcell2⟩ := own_get HMK.out (by omega)
      cases hvs
      have hc2 : wr.cell? ⟨gs, k, none⟩ = some (.bool (sn.getD k true)) := hcell2 k _ (boolV_get sn k true (by rw [HSN.out]; exact hk))
      obtain ⟨mk, hmk⟩ : ∃ mk, sn.getD k true = mk := ⟨_, rfl⟩
      rw [hmk] at hc2
      have HMKK := Lib.hid hmk
      have hfr3 := hfr2 k
      clear hcell2 hmk hfr hfr2
      cases mk
      · obtain ⟨x, hx⟩ : ∃ x, l.getD k i0 = x := ⟨_, rfl⟩
        obtain ⟨bl, off, ha, hbl, hI, hxr⟩ := HV.out.elem HU.out k (by rw [HN.out]; exact hk) HN.out (by rw [HN.out]) hx
        subst ha
        have HI0 : Hid (InsIn w bl (off + k * 11) x) := Lib.hid (by
          obtain ⟨bl', off', ha', _, hI', _⟩ := HV.out.elem (Up.refl w) k (by rw [HN.out]; exact hk) HN.out (by rw [HN.out]) hx
          cases ha'
          exact hI')
        have HG := Lib.hid (hx ▸ reachG_push HF.out (by rw [HN.out]; exact hk) HMKK.out)
        have hne : ¬ gs = bl := by omega
        have hne2 : ¬ bl = gs := by omega
        have hbw : bl < wr.heap.size := Nat.lt_of_lt_of_le hbl HU.out.size
        have HUS := Lib.hid (unseen_set sn k (by rw [HSN.out]; exact hk) HMKK.out)
        have HU1 := Lib.hid (HU.out.setCell (p := ⟨gs, k, none⟩) (by show w.heap.size ≤ gs; omega) (.bool true))
        have HMK1 : Hid ((wr.setCell ⟨gs, k, none⟩ (.bool true)).ownsRow B 4 1 (.slice (some ⟨gs, 0, none⟩) n n) n (boolV (sn.set k true))) := Lib.hid (by
          have := own_set HMK.out k (by rw [boolV_len, HSN.out]; exact hk) (.bool true)
          rw [boolV_set] at this; exact this)
        have HOP1 := Lib.hid (own_mark HOP.out HMK.out (by decide) k (.bool true))
        clear hx HF hxr HMKK

        obtain ⟨ls, hls⟩ : ∃ ls, succF x k = ls := ⟨_, rfl⟩
        have HS := Lib.hid (fun w => pe_successors x k (by omega) ls hls w)
        have HLL : Hid (ls.length ≤ 2) := Lib.hid (hls ▸ succF_len x k)
        have HG2 : Hid (reachG l f' (sn.set k true) (ls.reverse ++ st) = r) := Lib.hid (hls ▸ HG.out)
        obtain ⟨k0, k1, k2, k3, k4, k5, k6, k7, k8, k9, k10⟩ := hI
        obtain ⟨op, A, b, c, ⟨n1, d⟩, kd, bi, fr, ro, ov⟩ := x
        dsimp only [insV] at k0 k1 k2 k3 k4 k5 k6 k7 k8 k9 k10 HS
        clear hls HG
        go_wp2_with (first | (go_at_call 39; refine (HS.out _).mono ?_; rintro e x ⟨v2, rfl, hx2, hi2⟩; obtain ⟨⟨a2, c2, rfl⟩, hm2⟩ := hi2.slice; have HX2 := Lib.hid hx2; have HI2 := Lib.hid hi2; clear hx2 hi2) | (at_builtin; refine wpList_append_sl _ rfl _ _ 25 rfl B 3 ii _ 1 8 Tryd.underlying25 hii iz0 iz1 iz2 rfl (by decide) (.slice (some ⟨gw, 0, none⟩) m' vc) m' _ rfl (own_up' HOP1.out HX2.out) (.slice a2 ls.length c2) ls.length _ rfl HI2.out (fun i j _ _ => rfl) (by have := HLL.out; unfold maxLen; omega) (by have := HLL.out; omega) (by have := (HU1.out.trans HX2.out).size; have := HB.out; omega) ?_; intro v3 w3 hown3 hg3 hat3 hnil3; obtain ⟨vb, vd, rfl⟩ := own_slice hown3; have HO3 := Lib.hid hown3; have HG3 := Lib.hid hg3; clear hown3 hg3 hat3 hnil3))
        have HON : Hid (w3.ownsRow B 3 1 (.slice vb (m' + ls.length) vd) (m' + ls.length) (intV (ls.reverse ++ st).reverse)) := Lib.hid (by
          have := HO3.out
          rw [intV_flat, rev_push] at this; exact this)
        have HMK3 := Lib.hid (own_other (own_up' HMK1.out HX2.out) (own_up' HOP1.out HX2.out) (by decide) HG3.out)
        have HUN := Lib.hid ((HU1.out.trans HX2.out).grown HG3.out (fun g hg => by rw [HB.out]; exact own_base HOP1.out g hg))
        have HMU3 := Lib.hid (unW_eq HMK3.out (by rw [List.length_set, HSN.out]))
        exact ⟨⟨m' + ls.length, f', ls.reverse ++ st, sn.set k true, by rw [List.length_append, List.length_reverse, HM2.out]; omega, by rw [List.length_set, HSN.out], by have := HLL.out; have := HUS.out; omega, by omega, HON.out, HMK3.out, HG2.out, HUN.out⟩, by
          simp only [lenOfV]
          rw [HMU3.out, HMU.out]
          have := HLL.out
          have := HUS.out
          omega⟩
      · have HG := Lib.hid (reachG_skip HF.out (.inr (.inr (by rw [Int.toNat_natCast]; exact HMKK.out))))
        have h1' : (0 : Int) ≤ k := by omega
        go_wp2
        exact ⟨⟨m', f', st, sn, HM2.out, HSN.out, by omega, by omega, HOP.out, HMK.out, HG.out, HU.out⟩, by simp [lenOfV]⟩


set_option maxHeartbeats 8000000 in
theorem r50_reachable (v : Value) (l : List Ins) (w : World) (hv : InsAt w v l) (hlen : l.length ≤ 100000) :
    Calls Tryd.prog 25 #[v] w fun e w' => ∃ v', e = .returned v' ∧ Up w w' ∧ BoolsAt w' v' (reachF l) ∧ (reachF l).length = l.length := by
  obtain ⟨ib, hib, bz0, bz1, bz2⟩ := info_parts bool_info
  obtain ⟨ii, hii, iz0, iz1, iz2⟩ := info_parts int_info
  obtain ⟨r, hr⟩ : ∃ r, reachF l = r := ⟨_, rfl⟩
  rw [hr]
  have HV := Lib.hid hv
  obtain ⟨⟨a, cap, rfl⟩, hmax⟩ := hv.slice
  obtain ⟨n, hn⟩ : ∃ n, l.length = n := ⟨_, rfl⟩
  rw [hn] at hmax hlen ⊢
  have HN := Lib.hid hn
  have HR : Hid (reachG l (3 * n + 1) (List.replicate n false) [0] = r) := Lib.hid (by rw [← hr, reachF, hn])
  obtain ⟨B, hB⟩ : ∃ B, w.heap.size = B := ⟨_, rfl⟩
  have HB := Lib.hid hB
  clear hn hr hv hB
  have hmI : (n : Int) ≤ 100000 := by omega
  go_enter Tryd.func25, Tryd.ntmps25
  go_wp2_with (at_make; refine wpList_make_full _ rfl _ _ 65 rfl B 4 ib (.bool false) 1 Tryd.underlying65 hib bz0 bz1 .i64 .i64 _ _ n rfl rfl rfl rfl (by rw [bz2]; omega) (by unfold maxLen; omega) (by have := HB.out; omega) ?_; intro w0 hown0 hgrow0; have HO0 := Lib.hid hown0; have HG0 := Lib.hid hgrow0; clear hown0 hgrow0)
  have HU0 : Hid (Up w w0) := Lib.hid ((Up.refl w).grown HG0.out (fun g hg => by cases hg))
  have HOB : Hid (w0.ownsRow B 4 1 (.slice (some ⟨w.heap.size, 0, none⟩) n n) n (boolV (List.replicate n false))) := Lib.hid (boolV_rep n ▸ HO0.out)
  obtain ⟨gs, hgs⟩ : ∃ gs, w.heap.size = gs := ⟨_, rfl⟩
  rw [hgs] at HOB
  have hgsB : B = gs := by rw [← HB.out, hgs]
  clear HO0 HG0
  simp only [hgs]
  go_loopw [4] (fun wv wr => ∃ (m f : Nat) (st : List Int) (sn : List Bool), st.length = m ∧ sn.length = n ∧ 3 * unseen sn + m ≤ f ∧ f ≤ 3 * n + 1 ∧ wr.ownsRow B 3 1 wv m (intV st.reverse) ∧ wr.ownsRow B 4 1 (.slice (some ⟨gs, 0, none⟩) n n) n (boolV sn) ∧ reachG l f sn st = r ∧ Up w wr) (fun wv wr => 3 * unW wr gs n + (lenOfV wv))
  case atStart => exact ⟨1, 3 * n + 1, [0], List.replicate n false, rfl, List.length_replicate, by simp [unseen, List.count_replicate], Nat.le_refl _, own_one (by have := HU0.out.size; have := HB.out; omega) _ _, own_up' HOB.out ((Up.refl w0).alloc _), HR.out, HU0.out.alloc _⟩
  case round =>
    rename World => wr
    obtain ⟨m, f, st, sn, hm, hsn, hfu, hfn, hown, hmk, hf, hU⟩ := hrel
    obtain ⟨va, vc, rfl⟩ := own_slice hown
    have HMK := Lib.hid hmk
    have HSN := Lib.hid hsn
    have HU := Lib.hid hU
    have HF := Lib.hid hf
    clear hmk hsn hU hf
    cases st with
    | nil =>
      obtain rfl : m = 0 := by simpa using hm.symm
      have HG : Hid (r = sn) := Lib.hid (by rw [← HF.out, reachG_nil])
      clear HR
      go_wp2
      go_ret
      exact ret_v ⟨HU.out, HG.out ▸ BoolsAt.own HMK.out HSN.out (by omega), HG.out ▸ HSN.out⟩
    | cons p st =>
      obtain ⟨m', rfl⟩ : ∃ m', m = m' + 1 := ⟨st.length, by simpa using hm.symm⟩
      have hm2 : st.length = m' := by simpa using hm
      obtain ⟨f', rfl⟩ : ∃ f', f = f' + 1 := ⟨f - 1, by omega⟩
      rw [List.reverse_cons, intV_app] at hown
      obtain ⟨gw, cw, hvv, hgwB, hgw, hcw, hfr, hcell⟩ := own_get hown (by omega)
      cases hvv
      have hc0 : wr.cell? ⟨gw, m', none⟩ = some (.int .i64 p) := hcell m' _ (by rw [List.getElem?_append_right (by rw [intV_len, List.length_reverse]; omega), intV_len, List.length_reverse, hm2, Nat.sub_self]; rfl)
      have HOP := Lib.hid (own_pop hown)
      have hm3 : (m' : Int) ≤ 400000 := by omega
      have hm4 : (0 : Int) ≤ m' := by omega
      have HMU := Lib.hid (unW_eq HMK.out HSN.out)
      have HM2 := Lib.hid hm2
      clear hcell hown hm hm2 HR
      by_cases h1 : p < 0
      · have HG := Lib.hid (reachG_skip HF.out (.inl h1))
        go_wp2
        exact ⟨⟨m', f', st, sn, HM2.out, HSN.out, by omega, by omega, HOP.out, HMK.out, HG.out, HU.out⟩, by simp [lenOfV]⟩
      by_cases h2 : (n : Int) ≤ p
      · have HG := Lib.hid (reachG_skip HF.out (.inr (.inl (by rw [HN.out]; exact h2))))
        have h1' : 0 ≤ p := by omega
        go_wp2
        exact ⟨⟨m', f', st, sn, HM2.out, HSN.out, by omega, by omega, HOP.out, HMK.out, HG.out, HU.out⟩, by simp [lenOfV]⟩
      obtain ⟨k, rfl⟩ : ∃ k : Nat, p = k := ⟨p.toNat, by omega⟩
      have hk : k < n := by omega
      have hkI : (k : Int) < n := by omega
      obtain ⟨gs', cs', hvs, _, hgs2, _, hfr2, hcell2⟩ := own_get HMK.out (by omega)
      cases hvs
      have hc2 : wr.cell? ⟨gs, k, none⟩ = some (.bool (sn.getD k true)) := hcell2 k _ (boolV_get sn k true (by rw [HSN.out]; exact hk))
      obtain ⟨mk, hmk⟩ : ∃ mk, sn.getD k true = mk := ⟨_, rfl⟩
      rw [hmk] at hc2
      have HMKK := Lib.hid hmk
      have hfr3 := hfr2 k
      clear hcell2 hmk hfr hfr2
      cases mk
      · obtain ⟨x, hx⟩ : ∃ x, l.getD k i0 = x := ⟨_, rfl⟩
        obtain ⟨bl, off, ha, hbl, hI, hxr⟩ := HV.out.elem HU.out k (by rw [HN.out]; exact hk) HN.out (by rw [HN.out]) hx
        subst ha
        have HI0 : Hid (InsIn w bl (off + k * 11) x) := Lib.hid (by
          obtain ⟨bl', off', ha', _, hI', _⟩ := HV.out.elem (Up.refl w) k (by rw [HN.out]; exact hk) HN.out (by rw [HN.out]) hx
          cases ha'
          exact hI')
        have HG := Lib.hid (hx ▸ reachG_push HF.out (by rw [HN.out]; exact hk) HMKK.out)
        have hne : ¬ gs = bl := by omega
        have hne2 : ¬ bl = gs := by omega
        have hbw : bl < wr.heap.size := Nat.lt_of_lt_of_le hbl HU.out.size
        have HUS := Lib.hid (unseen_set sn k (by rw [HSN.out]; exact hk) HMKK.out)
        have HU1 := Lib.hid (HU.out.setCell (p := ⟨gs, k, none⟩) (by show w.heap.size ≤ gs; omega) (.bool true))
        have HMK1 : Hid ((wr.setCell ⟨gs, k, none⟩ (.bool true)).ownsRow B 4 1 (.slice (some ⟨gs, 0, none⟩) n n) n (boolV (sn.set k true))) := Lib.hid (by
          have := own_set HMK.out k (by rw [boolV_len, HSN.out]; exact hk) (.bool true)
          rw [boolV_set] at this; exact this)
        have HOP1 := Lib.hid (own_mark HOP.out HMK.out (by decide) k (.bool true))
        clear hx HF hxr HMKK

        have hw1 : IntKind.i64.wrap ((k : Int) + 1) = k + 1 := by rw [IntKind.wrap_i64]; omega
        obtain ⟨op, A, rest⟩ := x
        obtain ⟨k0, k1, -⟩ := hI
        dsimp only at k0 k1
        have HG2 : Hid (reachG l f' (sn.set k true) ((succF (op, A, rest) k).reverse ++ st) = r) := HG
        clear HG
        obtain ⟨jj, hj⟩ : ∃ jj, jumpsB op = jj := ⟨_, rfl⟩
        have HJ := Lib.hid hj
        clear hj
        cases jj
        · have hop7 : ¬ op = 7 := by rintro rfl; exact absurd HJ.out (by decide)
          by_cases hop0 : op = 0
          · subst hop0
            have hop0 : True := trivial
            have HSU : Hid (succF (0, A, rest) k = []) := Lib.hid (by simp [succF, HJ.out, hop0, hop7])
            go_wp2_with (go_at_call 31; refine (r47_Jumps _ _ HJ.out _).mono ?_; rintro e' x' ⟨rfl, rfl⟩)
            all_goals have HG5 : Hid (reachG l f' (sn.set k true) st = r) := Lib.hid (by have := HG2.out; rw [HSU.out] at this; exact this)
            all_goals have HMU3 := Lib.hid (unW_eq HMK1.out (by rw [List.length_set, HSN.out]))
            all_goals exact ⟨⟨m', f', st, sn.set k true, by simp [HM2.out], by rw [List.length_set, HSN.out], by have := HUS.out; omega, by omega, HOP1.out, HMK1.out, HG5.out, HU1.out⟩, by simp only [lenOfV]; rw [HMU3.out, HMU.out]; have := HUS.out; omega⟩
          · have hop0' := hop0
            have HSU : Hid (succF (op, A, rest) k = [((k : Int) + 1)]) := Lib.hid (by simp [succF, HJ.out, hop0, hop7])
            have b0 : (op != 0) = true := by simpa using hop0
            have b7 : (op != 7) = true := by simpa using hop7
            go_wp2_with (first | (go_at_call 31; refine (r47_Jumps _ _ HJ.out _).mono ?_; rintro e' x' ⟨rfl, rfl⟩) | (at_builtin; refine wpList_append_sl _ rfl _ _ 25 rfl B 3 ii _ 1 8 Tryd.underlying25 hii iz0 iz1 iz2 rfl (by decide) (.slice (some ⟨gw, 0, none⟩) m' vc) m' _ rfl (own_up' HOP1.out ((Up.refl (wr.setCell ⟨gs, k, none⟩ (.bool true))).alloc _)) (.slice (some ⟨wr.heap.size, 0, none⟩) 1 1) 1 _ rfl (IntsAt.one' (wr.setCell ⟨gs, k, none⟩ (.bool true)) 3 ((k : Int) + 1) (by simp)) (fun i j _ _ => rfl) (by unfold maxLen; omega) (by omega) (by have := HU1.out.size; have := HB.out; simp at *; omega) ?_; intro v3 w3 hown3 hg3 hat3 hnil3; obtain ⟨vb3, vd3, rfl⟩ := own_slice hown3; have HO3 := Lib.hid hown3; have HG3 := Lib.hid hg3; have HUW3 := Lib.hid ((HU1.out.alloc _).grown hg3 (fun g hg => by rw [HB.out]; exact own_base HOP1.out g hg)); obtain ⟨c30, c31, -⟩ := InsIn.up HI0.out HUW3.out hbl; have HON3 : Hid (w3.ownsRow B 3 1 (.slice vb3 (m' + 1) vd3) (m' + 1) (intV (((k : Int) + 1) :: st).reverse)) := Lib.hid (by have := HO3.out; rw [show flat (fun j _ => Value.int .i64 (([((k : Int) + 1)] : List Int).getD j 0)) 1 1 = intV [((k : Int) + 1)] from intV_flat [((k : Int) + 1)]] at this; rw [rev_push] at this; exact this); have HMK3 := Lib.hid (own_other (own_up' HMK1.out ((Up.refl (wr.setCell ⟨gs, k, none⟩ (.bool true))).alloc (.cells #[.int .i64 ((k : Int) + 1)] 3))) (own_up' HOP1.out ((Up.refl (wr.setCell ⟨gs, k, none⟩ (.bool true))).alloc (.cells #[.int .i64 ((k : Int) + 1)] 3))) (by decide) HG3.out); clear hown3 hg3 hat3 hnil3))
            all_goals have HG5 : Hid (reachG l f' (sn.set k true) (((k : Int) + 1) :: st) = r) := Lib.hid (by have := HG2.out; rw [HSU.out] at this; exact this)
            all_goals have HMU3 := Lib.hid (unW_eq HMK3.out (by rw [List.length_set, HSN.out]))
            all_goals exact ⟨⟨m' + 1, f', (((k : Int) + 1) :: st), sn.set k true, by simp [HM2.out], by rw [List.length_set, HSN.out], by have := HUS.out; omega, by omega, HON3.out, HMK3.out, HG5.out, HUW3.out⟩, by simp only [lenOfV]; rw [HMU3.out, HMU.out]; have := HUS.out; omega⟩
        · have hop0 : ¬ op = 0 := by rintro rfl; exact absurd HJ.out (by decide)
          by_cases hop7 : op = 7
          · subst hop7
            have hop7 : True := trivial
            have HSU : Hid (succF (7, A, rest) k = [A]) := Lib.hid (by simp [succF, HJ.out, hop0, hop7])
            go_wp2_with (first | (go_at_call 31; refine (r47_Jumps _ _ HJ.out _).mono ?_; rintro e' x' ⟨rfl, rfl⟩) | (at_builtin; refine wpList_append_sl _ rfl _ _ 25 rfl B 3 ii _ 1 8 Tryd.underlying25 hii iz0 iz1 iz2 rfl (by decide) (.slice (some ⟨gw, 0, none⟩) m' vc) m' _ rfl (own_up' HOP1.out ((Up.refl (wr.setCell ⟨gs, k, none⟩ (.bool true))).alloc _)) (.slice (some ⟨wr.heap.size, 0, none⟩) 1 1) 1 _ rfl (IntsAt.one' (wr.setCell ⟨gs, k, none⟩ (.bool true)) 3 A (by simp)) (fun i j _ _ => rfl) (by unfold maxLen; omega) (by omega) (by have := HU1.out.size; have := HB.out; simp at *; omega) ?_; intro v3 w3 hown3 hg3 hat3 hnil3; obtain ⟨vb3, vd3, rfl⟩ := own_slice hown3; have HO3 := Lib.hid hown3; have HG3 := Lib.hid hg3; have HUW3 := Lib.hid ((HU1.out.alloc _).grown hg3 (fun g hg => by rw [HB.out]; exact own_base HOP1.out g hg)); obtain ⟨c30, c31, -⟩ := InsIn.up HI0.out HUW3.out hbl; have HON3 : Hid (w3.ownsRow B 3 1 (.slice vb3 (m' + 1) vd3) (m' + 1) (intV (A :: st).reverse)) := Lib.hid (by have := HO3.out; rw [show flat (fun j _ => Value.int .i64 (([A] : List Int).getD j 0)) 1 1 = intV [A] from intV_flat [A]] at this; rw [rev_push] at this; exact this); have HMK3 := Lib.hid (own_other (own_up' HMK1.out ((Up.refl (wr.setCell ⟨gs, k, none⟩ (.bool true))).alloc (.cells #[.int .i64 A] 3))) (own_up' HOP1.out ((Up.refl (wr.setCell ⟨gs, k, none⟩ (.bool true))).alloc (.cells #[.int .i64 A] 3))) (by decide) HG3.out); clear hown3 hg3 hat3 hnil3))
            all_goals have HG5 : Hid (reachG l f' (sn.set k true) (A :: st) = r) := Lib.hid (by have := HG2.out; rw [HSU.out] at this; exact this)
            all_goals have HMU3 := Lib.hid (unW_eq HMK3.out (by rw [List.length_set, HSN.out]))
            all_goals exact ⟨⟨m' + 1, f', (A :: st), sn.set k true, by simp [HM2.out], by rw [List.length_set, HSN.out], by have := HUS.out; omega, by omega, HON3.out, HMK3.out, HG5.out, HUW3.out⟩, by simp only [lenOfV]; rw [HMU3.out, HMU.out]; have := HUS.out; omega⟩
          · have hop7' := hop7
            have HSU : Hid (succF (op, A, rest) k = [A, ((k : Int) + 1)]) := Lib.hid (by simp [succF, HJ.out, hop0, hop7])
            have b0 : (op != 0) = true := by simpa using hop0
            have b7 : (op != 7) = true := by simpa using hop7
            go_wp2_with (first | (go_at_call 31; refine (r47_Jumps _ _ HJ.out _).mono ?_; rintro e' x' ⟨rfl, rfl⟩) | (at_builtin; refine wpList_append_sl _ rfl _ _ 25 rfl B 3 ii _ 1 8 Tryd.underlying25 hii iz0 iz1 iz2 rfl (by decide) (.slice (some ⟨gw, 0, none⟩) m' vc) m' _ rfl (own_up' HOP1.out ((Up.refl (wr.setCell ⟨gs, k, none⟩ (.bool true))).alloc _)) (.slice (some ⟨wr.heap.size, 0, none⟩) 1 1) 1 _ rfl (IntsAt.one' (wr.setCell ⟨gs, k, none⟩ (.bool true)) 3 A (by simp)) (fun i j _ _ => rfl) (by unfold maxLen; omega) (by omega) (by have := HU1.out.size; have := HB.out; simp at *; omega) ?_; intro v3 w3 hown3 hg3 hat3 hnil3; obtain ⟨vb3, vd3, rfl⟩ := own_slice hown3; have HO3 := Lib.hid hown3; have HG3 := Lib.hid hg3; have HUW3 := Lib.hid ((HU1.out.alloc _).grown hg3 (fun g hg => by rw [HB.out]; exact own_base HOP1.out g hg)); obtain ⟨c30, c31, -⟩ := InsIn.up HI0.out HUW3.out hbl; have HON3 : Hid (w3.ownsRow B 3 1 (.slice vb3 (m' + 1) vd3) (m' + 1) (intV (A :: st).reverse)) := Lib.hid (by have := HO3.out; rw [show flat (fun j _ => Value.int .i64 (([A] : List Int).getD j 0)) 1 1 = intV [A] from intV_flat [A]] at this; rw [rev_push] at this; exact this); have HMK3 := Lib.hid (own_other (own_up' HMK1.out ((Up.refl (wr.setCell ⟨gs, k, none⟩ (.bool true))).alloc (.cells #[.int .i64 A] 3))) (own_up' HOP1.out ((Up.refl (wr.setCell ⟨gs, k, none⟩ (.bool true))).alloc (.cells #[.int .i64 A] 3))) (by decide) HG3.out); clear hown3 hg3 hat3 hnil3) | (at_builtin; refine wpList_append_sl _ rfl _ _ 25 rfl B 3 ii _ 1 8 Tryd.underlying25 hii iz0 iz1 iz2 rfl (by decide) (.slice vb3 (m' + 1) vd3) (m' + 1) _ rfl (own_up' HON3.out ((Up.refl w3).alloc _)) (.slice (some ⟨w3.heap.size, 0, none⟩) 1 1) 1 _ rfl (IntsAt.one' w3 3 ((k : Int) + 1) (by simp)) (fun i j _ _ => rfl) (by unfold maxLen; omega) (by omega) (by have := HUW3.out.size; have := HB.out; simp at *; omega) ?_; intro v4 w4 hown4 hg4 hat4 hnil4; obtain ⟨vb4, vd4, rfl⟩ := own_slice hown4; have HO4 := Lib.hid hown4; have HG4 := Lib.hid hg4; have HUW4 := Lib.hid ((HUW3.out.alloc _).grown hg4 (fun g hg => by rw [HB.out]; exact own_base HON3.out g hg)); obtain ⟨c40, c41, -⟩ := InsIn.up HI0.out HUW4.out hbl; have HON4 : Hid (w4.ownsRow B 3 1 (.slice vb4 ((m' + 1) + 1) vd4) ((m' + 1) + 1) (intV (((k : Int) + 1) :: (A :: st)).reverse)) := Lib.hid (by have := HO4.out; rw [show flat (fun j _ => Value.int .i64 (([((k : Int) + 1)] : List Int).getD j 0)) 1 1 = intV [((k : Int) + 1)] from intV_flat [((k : Int) + 1)]] at this; rw [rev_push] at this; exact this); have HMK4 := Lib.hid (own_other (own_up' HMK3.out ((Up.refl w3).alloc (.cells #[.int .i64 ((k : Int) + 1)] 3))) (own_up' HON3.out ((Up.refl w3).alloc (.cells #[.int .i64 ((k : Int) + 1)] 3))) (by decide) HG4.out); clear hown4 hg4 hat4 hnil4))
            all_goals have HG5 : Hid (reachG l f' (sn.set k true) (((k : Int) + 1) :: (A :: st)) = r) := Lib.hid (by have := HG2.out; rw [HSU.out] at this; exact this)
            all_goals have HMU3 := Lib.hid (unW_eq HMK4.out (by rw [List.length_set, HSN.out]))
            all_goals exact ⟨⟨m' + 1 + 1, f', (((k : Int) + 1) :: (A :: st)), sn.set k true, by simp [HM2.out], by rw [List.length_set, HSN.out], by have := HUS.out; omega, by omega, HON4.out, HMK4.out, HG5.out, HUW4.out⟩, by simp only [lenOfV]; rw [HMU3.out, HMU.out]; have := HUS.out; omega⟩
      · have HG := Lib.hid (reachG_skip HF.out (.inr (.inr (by rw [Int.toNat_natCast]; exact HMKK.out))))
        have h1' : (0 : Int) ≤ k := by omega
        go_wp2
        exact ⟨⟨m', f', st, sn, HM2.out, HSN.out, by omega, by omega, HOP.out, HMK.out, HG.out, HU.out⟩, by simp [lenOfV]⟩

end Go.Proofs.YtbpojmhgifgfdaaDoor
