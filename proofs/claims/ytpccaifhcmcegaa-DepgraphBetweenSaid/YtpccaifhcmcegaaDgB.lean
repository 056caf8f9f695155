/-
  Between of the reference 20. Printed by mkDgB.py.
-/
import Derived.Test.YtpccaifhcmcegaaDgR
import Derived.Test.YtpccaifhcmcegaaGb
namespace Go.Proofs.Ytpccaifhcmcegaa
set_option linter.unusedSimpArgs false
open Go.ChangeShapes Go.WideShapes Go.ChangeAt Go.RowKit
set_option linter.unusedVariables false
set_option maxRecDepth 100000

theorem wpMd_rowT {P : Program} {ops : Array Oper} {md : Region.Mode} {w : World} {M : FuncId → Array Value → Value → World → Prop} {L : Act → Facts → Prop} (hL : AntiF w L) {k : Nat} {o : Oper} {rest : List Oper} {a : Act} {S : Facts} (cs : Array Value) (t : TypeId) (m : Nat)
    (hw : Region.wanted o (yielded ops a.tmps) = true) (hrun : ∀ x, (execOp a.eval o).run P x = .ok (.value (.slice (some ⟨x.heap.size, 0, none⟩) m m)) (x.alloc (.cells cs t (0, 0))))
    (h : ∀ b, w.heap.size ≤ b → ∀ S', More S S' → (∀ x, S' k x → x.heap[b]? = some (.cells cs t (0, 0))) → wpMd P md ops M w L (k + 1) rest (a.put o.dst (.slice (some ⟨b, 0, none⟩) m m)) S') : wpMd P md ops M w L k (o :: rest) a S := by
  refine wpMd_any hL (fun v y => ∃ b, v = .slice (some ⟨b, 0, none⟩) m m ∧ w.heap.size ≤ b ∧ y.heap[b]? = some (.cells cs t (0, 0))) (fun v x y ⟨b, h1, h2, h3⟩ hu => ⟨b, h1, h2, by rw [hu.heap b (Array.getElem?_eq_some_iff.1 h3).1]; exact h3⟩) hw
    (fun x hx _ => ⟨_, _, hrun x, (Up.refl x).alloc _, x.heap.size, rfl, hx.size, heap_alloc_new x _⟩) (fun v ⟨y, _, b, h1, h2, _⟩ => ?_)
  subst h1
  refine wpMd_more hL _ _ _ _ _ (More.upd (fun _ _ h => h) k (fun x ⟨⟨b', h4, h5, h6⟩, _⟩ => ?_)) (h b h2 _ (more_upd _ _ _) fun _ hx => upd_new hx)
  cases h4
  exact h6
/-- A row of one text, known by its block. -/
theorem LsAt.blk1 {x : World} {b : Nat} {s : ByteArray} (hs : s.size ≤ maxLen) (h : x.heap[b]? = some (.cells #[.string s] 9 (0, 0))) : LsAt 1 16 strR x (.slice (some ⟨b, 0, none⟩) 1 1) [s] := by
  refine ⟨⟨_, 1, rfl, Nat.le_refl _⟩, by simp, fun _ _ => .string s, ⟨⟨_, _, rfl, (fun h => nomatch h), fun y hy _ => ?_⟩, by simp⟩, fun i hi => ?_⟩
  · cases hy
    refine ⟨rfl, (Array.getElem?_eq_some_iff.1 h).1, fun i j hi hj => ?_⟩
    obtain rfl : i = 0 := by simpa using hi
    obtain rfl : j = 0 := by omega
    rw [cell_of_row _ _ _ _ _ _ h]; rfl
  · obtain rfl : i = 0 := by simpa using hi
    exact ⟨rfl, hs⟩
/-- The names between two names. -/
noncomputable def btwF (p : Pg) (fr to : ByteArray) : List ByteArray := (rchF p [to]).filter fun x => has (rchF p [x]) fr

set_option maxHeartbeats 16000000 in
theorem r20_Between (N : Nat) (p : Pg) (v : Value) (fr t : ByteArray) (w : World) (hv : ProgAt N w v p) (ht : t.size ≤ maxLen) (hb : ∀ d ∈ p.defs, tot d.body ≤ 1500) (hsm : p.pars.length ≤ 40 ∧ p.defs.length ≤ 40) :
    Calls Try.prog 26 #[v, .string fr, .string t] w fun e w' => ∃ u, e = .returned u ∧ Up w w' ∧ NewS w w' u (btwF p fr t) := by
  obtain ⟨all, hall⟩ : ∃ all, rchF p [t] = all := ⟨_, rfl⟩
  obtain ⟨an, han⟩ : ∃ q, all.length = q := ⟨_, rfl⟩
  have HAN := Lib.hid han
  have hanb : an ≤ 80 := by have := rchF_len p [t]; rw [hall, han] at this; omega
  have hanI : (an : Int) ≤ 80 := by omega
  have HRF : Hid (btwF p fr t = all.filter fun x => has (rchF p [x]) fr) := Lib.hid (by unfold btwF; rw [hall])
  obtain ⟨RF, hRF⟩ : ∃ q, btwF p fr t = q := ⟨_, rfl⟩
  obtain ⟨G, hG⟩ : ∃ G : ByteArray → Bool, (fun x => has (rchF p [x]) fr) = G := ⟨_, rfl⟩
  rw [hRF, hG] at HRF
  rw [hRF]
  have HGE : Hid (∀ x, has (rchF p [x]) fr = G x) := Lib.hid fun x => congrFun hG x
  have HRC := Lib.hid (fun s nv y (hy : Up w y) (hn : LsAt 1 16 strR y nv [s]) => r20_Reachable N p _ nv [s] y (hv.up hy) hn hb hsm)
  have HC0 := Lib.hid (fun nv y (hy : Up w y) (hn : LsAt 1 16 strR y nv [t]) => Calls.strs (n := an) (HRC.out t nv y hy hn) (by rw [hall]; exact han))
  rw [hall] at HC0
  have HTZ := Lib.hid ht
  obtain ⟨v0, v1, v2, v3, v4, rfl, _⟩ := id hv
  clear hv hb hsm hall han hRF hG ht
  have HU0 : Hid (Up w (w.alloc (.cells #[v0, v1, v2, v3, v4] 27))) := Lib.hid ((Up.refl w).alloc _)
  have HB0 := Lib.hid (BoxC.new w 27 #[v0, v1, v2, v3, v4])
  have HU01 := Lib.hid (HU0.out.alloc (.cells #[.string t] 9))
  have HL0 := Lib.hid (LsAt.one_str (w.alloc (.cells #[v0, v1, v2, v3, v4] 27)) HTZ.out).ofS
  rw [World.size_alloc] at HL0
  go_enter Try.func26, Try.ntmps26
  go_wp2_with (go_at_call 17; (with_reducible refine (HC0.out _ _ HU01.out HL0.out).mono ?_); rintro e' W1 ⟨aa, ac, rfl, hy, hu⟩; have HW1 := Lib.hid (HU01.out.trans hy); have HB1 := Lib.hid ((HB0.out.up ((Up.refl _).alloc _)).up hy); have HA1 := Lib.hid hu.1; clear hy hu)
  clear HC0 HL0
  go_loopw [8, 9] (fun ov iv wr => ∃ i : Nat, iv = .int .i64 i ∧ i ≤ an ∧ Up W1 wr ∧ OwnS W1.heap.size wr ov ((all.take i).filter G)) (fun _ iv _ => an - (intOf iv).toNat)
  case atStart => exact ⟨0, rfl, Nat.zero_le _, Up.refl _, OwnL.nil⟩
  case round =>
    rename World => wr
    obtain ⟨i, rfl, hi, hup, hrow⟩ := hrel
    have HU1 := Lib.hid hup
    have HW := Lib.hid (HW1.out.trans hup)
    have HA := Lib.hid (HA1.out.up strR_up hup)
    obtain ⟨U, hU⟩ : ∃ U, (all.take i).filter G = U := ⟨_, rfl⟩
    have HUE := Lib.hid hU
    have HLN : Hid (U.length ≤ 80) := Lib.hid (by rw [← hU]; exact Nat.le_trans (List.length_filter_le _ _) (by rw [List.length_take, HAN.out]; omega))
    rw [hU] at hrow
    obtain ⟨va, vc, rfl⟩ := hrow.shape
    have HR := Lib.hid hrow
    obtain ⟨m, hm⟩ : ∃ m, U.length = m := ⟨_, rfl⟩
    rw [hm] at HR HLN ⊢
    have HM := Lib.hid hm
    clear hup hrow hU hm
    by_cases hlt : i < an
    · have hltI : (i : Int) < an := by omega
      have hi1 : i < all.length := by rw [HAN.out]; exact hlt
      obtain ⟨g, o, rfl, hg, hsz, hc⟩ := HA.out.txt i hi1
      have HT := Lib.hid (filter_take (f := G) HAN.out hlt)
      rw [HUE.out] at HT
      have hc1 := hc wr (Up.refl _)
      obtain ⟨x, hx⟩ : ∃ x, all[i]'hi1 = x := ⟨_, rfl⟩
      have HT : Hid ((all.take (i + 1)).filter G = if G x = true then U ++ [x] else U) := Lib.hid (by rw [← hx]; exact HT.out)
      rw [hx] at hsz hc1
      have HSZ := Lib.hid hsz
      have HC := Lib.hid hc
      rw [hx] at HC
      have HG := Lib.hid hg
      clear hx hsz hc hi1
      obtain ⟨b1, hb1⟩ : ∃ b, G x = b := ⟨_, rfl⟩
      have HB1' := Lib.hid hb1
      obtain ⟨R, hR⟩ : ∃ R, rchF p [x] = R := ⟨_, rfl⟩
      have HGX : Hid (has R fr = b1) := Lib.hid (by rw [← hR, HGE.out, hb1])
      have HCX := Lib.hid (fun nv y (hy : Up w y) (hn : LsAt 1 16 strR y nv [x]) => HRC.out x nv y hy hn)
      rw [hR] at HCX
      clear hb1 hR
      have c0 : wr.cell? ⟨w.heap.size, 0, none⟩ = some v0 := cell_of_row _ _ _ _ _ _ (HB1.out.up HU1.out)
      have c1 : wr.cell? ⟨w.heap.size, 1, none⟩ = some v1 := cell_of_row _ _ _ _ _ _ (HB1.out.up HU1.out)
      have c2 : wr.cell? ⟨w.heap.size, 2, none⟩ = some v2 := cell_of_row _ _ _ _ _ _ (HB1.out.up HU1.out)
      have c3 : wr.cell? ⟨w.heap.size, 3, none⟩ = some v3 := cell_of_row _ _ _ _ _ _ (HB1.out.up HU1.out)
      have c4 : wr.cell? ⟨w.heap.size, 4, none⟩ = some v4 := cell_of_row _ _ _ _ _ _ (HB1.out.up HU1.out)
      have bs : w.heap.size < wr.heap.size := (HB1.out.up HU1.out).lt
      go_upto_region 6 with fail
      refine wp_region_md 8 (fun _ _ v x => LsAt 1 16 strR x v R) (by kernel_rfl) (by kernel_rfl) ?_
      simp only [List.take_succ_cons, List.take_zero, List.drop_succ_cons, List.drop_zero]
      iterate 5 (refine wpMd_quietG antiF_post (by kernel_rfl) ?_; intro S hm hk; clear hm hk; go_big_quiet_step (fail); refine wpQuiet_nil ?_)
      refine wpMd_rowT antiF_post #[.string x] 9 1 (by kernel_rfl) (fun x => by go_simp) ?_
      rintro b3 hb3 S hm hk
      have HF3 := Lib.hid hk
      clear hm hk hb3
      simp only [Act.put, List.setIfInBounds_toArray, List.set_cons_succ, List.set_cons_zero]
      refine wpMd_enterG antiF_post 17 #[.agg #[v0, v1, v2, v3, v4], .slice (some ⟨b3, 0, none⟩) 1 1] (fun v x y h hu => h.up strR_up hu) (by kernel_rfl) (fun x => by go_simp) (fun z hz hd => ?_) ?_
      · exact (HCX.out _ z (HW.out.trans hz) (LsAt.blk1 HSZ.out (HF3.out z (hd { on := 5, ground := Ground.data } (by simp) rfl)))).mono fun e x' ⟨u, h1, h2, h3⟩ => ⟨_, h1, h2, h3.1⟩
      rintro v ⟨y', hy', hM⟩ S hm hk
      have HF6 := Lib.hid (fun x hx => (hk x hx).1)
      clear hm hk hy' hM y' HF3
      simp only [Act.put, List.setIfInBounds_toArray, List.set_cons_succ, List.set_cons_zero]
      refine wpMd_quietG antiF_post (by kernel_rfl) ?_; intro S hm hk; replace HF6 := Lib.hid (fun x hx => HF6.out x (hm _ x hx)); clear hm hk; go_big_quiet_step (fail); refine wpQuiet_nil ?_
      refine wpMd_nil ?_
      intro W2 hz hS
      have HLR : Hid (LsAt 1 16 strR W2 v R) := Lib.hid (HF6.out W2 (hS 6))
      clear HF6 hS
      have HWW := Lib.hid hz
      have HU2 := Lib.hid (HU1.out.trans hz)
      have HR0 := Lib.hid (OwnL.up (fun _ _ _ _ h _ => h) HR.out hz)
      have hc2 := HC.out W2 hz
      have hg2 := Nat.lt_of_lt_of_le HG.out hz.size
      clear hz c0 c1 c2 c3 c4 bs hc1 hg HR
      cases b1
      · have HE : Hid ((all.take (i + 1)).filter G = U) := Lib.hid (by rw [HT.out, HB1'.out]; rfl)
        go_wp2_with (go_at_call 27; (with_reducible refine (base_Has fr R _ _ HLR.out false HGX.out).mono ?_); rintro e' x' ⟨rfl, hx'⟩; rw [hx']; clear hx' x')
        go_roundw
        case rel => exact ⟨i + 1, by go_num, by omega, HU2.out, by rw [HE.out]; exact HR0.out⟩
        case measure => simp [intOf]; omega
      · have HE : Hid ((all.take (i + 1)).filter G = U ++ [x]) := Lib.hid (by rw [HT.out, HB1'.out]; rfl)
        go_wp2_with (first
          | (go_at_call 27; (with_reducible refine (base_Has fr R _ _ HLR.out true HGX.out).mono ?_); rintro e' x' ⟨rfl, hx'⟩; rw [hx']; clear hx' x')
          | (at_builtin; refine st_app (mm := 1) rowT_str strQ_one HM.out (by rfl) (H := OwnL.up (fun _ _ _ _ h _ => h) HR0.out ((Up.refl _).alloc _)) (S := LsAt.one_str _ HSZ.out) (by have := HLN.out; omega) (by decide) (by have := HU2.out.size; simp only [World.size_alloc]; omega) (by rfl) (by rfl) ?_; intro ua uc w2 h1 h2 h3; have HR2 := Lib.hid h1; have HG2 := Lib.hid h2; have HO2 := Lib.hid h3; clear h1 h2 h3))
        go_roundw
        case rel => exact ⟨i + 1, by go_num, by omega, ((HU2.out.alloc _).grown' HG2.out fun k e => by have := HR0.out.base k e; omega), by rw [HE.out]; exact HR2.out⟩
        case measure => simp [intOf]; omega
    · obtain rfl : an = i := by omega
      have HTK : Hid (all.take an = all) := Lib.hid (List.take_of_length_le (by rw [HAN.out]; exact Nat.le_refl _))
      have HRF2 : Hid (RF = U) := Lib.hid (by rw [HRF.out, ← HUE.out, HTK.out])
      go_wp2
      go_ret
      refine ⟨_, rfl, HW.out, ?_⟩
      rw [HRF2.out]
      exact OwnS.new (by have := HR.out; rw [← HM.out] at this ⊢; exact this) HW1.out.size (by have := HLN.out; have := HM.out; omega)
end Go.Proofs.Ytpccaifhcmcegaa
