/-
  TopoSort of the reference 20. Printed by mkDgT.py.
-/
import Derived.Test.YtpccaifhcmcegaaDgTp
namespace Go.Proofs.Ytpccaifhcmcegaa
set_option linter.unusedSimpArgs false
open Go.ChangeShapes Go.WideShapes Go.ChangeAt Go.RowKit
set_option linter.unusedVariables false
set_option maxRecDepth 100000

set_option maxHeartbeats 16000000 in
theorem r20_TopoSort (N : Nat) (p : Pg) (v : Value) (w : World) (hv : ProgAt N w v p) (hb : ∀ d ∈ p.defs, tot d.body ≤ 1500) (hsm : p.defs.length ≤ 40) :
    Calls Try.prog 24 #[v] w fun e w' => ∃ u, e = .returned (.tuple #[u, .int .i64 (topoF p).2]) ∧ Up w w' ∧ ProgAt N w' u (topoF p).1 := by
  obtain ⟨sa, sc, ca, cc, pa, pc, da, dc, oa, oc, rfl, hs, hcn, hp, hd, ho⟩ := hv.open
  obtain ⟨sizes, cons, pars, defs, outs⟩ := p
  dsimp only at *
  obtain ⟨sn, hsn⟩ : ∃ q, sizes.length = q := ⟨_, rfl⟩
  obtain ⟨cn, hcnn⟩ : ∃ q, cons.length = q := ⟨_, rfl⟩
  obtain ⟨pn, hpn⟩ : ∃ q, pars.length = q := ⟨_, rfl⟩
  obtain ⟨dn, hdn⟩ : ∃ q, defs.length = q := ⟨_, rfl⟩
  obtain ⟨on_, hon⟩ : ∃ q, outs.length = q := ⟨_, rfl⟩
  rw [hsn] at hs hv ⊢
  rw [hcnn] at hcn hv ⊢
  rw [hpn] at hp hv ⊢
  rw [hdn] at hd hv ⊢
  rw [hon] at ho hv ⊢
  have hdI : (dn : Int) ≤ 140737488351232 := by have := hd.bytes; rw [hdn] at this; omega
  have hpI : (pn : Int) ≤ 140737488351232 := by have := hp.bytes; rw [hpn] at this; omega
  have HV := Lib.hid hv
  have HS := Lib.hid hs
  have HC := Lib.hid hcn
  have HP := Lib.hid hp
  have HD := Lib.hid hd
  have HO := Lib.hid ho
  have HPN := Lib.hid hpn
  have HDN := Lib.hid hdn
  have HON := Lib.hid hon
  clear hs hcn hp hd ho hsn hcnn hpn hdn hon hv
  have HSM : Hid (dn ≤ 40) := Lib.hid (by rw [← HDN.out]; exact hsm)
  obtain ⟨T, hT⟩ : ∃ T, topoL defs.length defs [] = T := ⟨_, rfl⟩
  have HT := Lib.hid hT
  have HS0 : Hid (SumT T defs []) := Lib.hid ⟨hT, by have := HSM.out; have := HDN.out; simp; omega, hb⟩
  have hdn40 : (dn : Int) ≤ 40 := by have := HSM.out; omega
  clear hb hsm hT
  have HU0 : Hid (Up w (w.alloc (.cells #[.slice sa sn sc, .slice ca cn cc, .slice pa pn pc, .slice da dn dc, .slice oa on_ oc] 27))) := Lib.hid ((Up.refl w).alloc _)
  have HB0 := Lib.hid (BoxC.new w 27 #[.slice sa sn sc, .slice ca cn cc, .slice pa pn pc, .slice da dn dc, .slice oa on_ oc])
  have HU1 := Lib.hid (HU0.out.alloc (.cells #[.slice none 0 0, .slice none 0 0, .slice none 0 0, .slice none 0 0, .slice none 0 0] 27))
  have HB1 := Lib.hid (HB0.out.up ((Up.refl _).alloc (.cells #[.slice none 0 0, .slice none 0 0, .slice none 0 0, .slice none 0 0, .slice none 0 0] 27)))
  have HB2 := Lib.hid (BoxC.new (w.alloc (.cells #[.slice sa sn sc, .slice ca cn cc, .slice pa pn pc, .slice da dn dc, .slice oa on_ oc] 27)) 27 #[.slice none 0 0, .slice none 0 0, .slice none 0 0, .slice none 0 0, .slice none 0 0])
  rw [World.size_alloc] at HB2
  obtain ⟨W1, hW1⟩ : ∃ x, (w.alloc (.cells #[.slice sa sn sc, .slice ca cn cc, .slice pa pn pc, .slice da dn dc, .slice oa on_ oc] 27)).alloc (.cells #[.slice none 0 0, .slice none 0 0, .slice none 0 0, .slice none 0 0, .slice none 0 0] 27) = x := ⟨_, rfl⟩
  rw [hW1] at HB2 HU1 HB1
  have HSZ1 : Hid (W1.heap.size = w.heap.size + 1 + 1) := Lib.hid (by rw [← hW1]; simp only [World.size_alloc])
  have HW1E := Lib.hid hW1
  clear hW1
  go_enter Try.func24, Try.ntmps24
  go_upto_region 1 with (fail)
  rw [HW1E.out]
  obtain ⟨p0, p1, p2, p3, p4⟩ := HB1.out.five
  have ps := HB1.out.lt
  have HFL := Lib.hid (run_fill (P := Try.prog) prog_info W1 (Z := #[.slice none 0 0, .slice none 0 0, .slice none 0 0, .slice none 0 0, .slice none 0 0]) (cs := #[.slice sa sn sc, .slice ca cn cc, .slice pa pn pc, .slice da dn dc, .slice oa on_ oc]) rfl rfl (by simp [Value.oneCell']))
  have HBN := Lib.hid (BoxC.new W1 27 #[.slice sa sn sc, .slice ca cn cc, .slice pa pn pc, .slice none 0 0, .slice oa on_ oc])
  have HDU := Lib.hid (HD.out.turn (S := fun _ => defR N w) (fun f e h => h))
  go_wp2_with (first
    | (refine st_store HFL.out (by rfl) (by rfl) ?_)
    | (at_builtin; refine st_app (l := []) (n := 0) (mm := dn) (base := W1.heap.size + 1) rowT_def defQ_one rfl HDN.out (H := OwnL.nil) (S := HDU.out.up (fun _ _ _ _ h _ => h) (HU1.out.trans ((Up.refl _).alloc _))) (by have := HSM.out; omega) (by decide) (by simp only [World.size_alloc]; omega) (by rfl) (by rfl) ?_; intro ua uc w2 h1 h2 h3; simp only [Nat.zero_add, List.nil_append] at h1 h3 ⊢; have HR0 := Lib.hid h1; have HG0 := Lib.hid h2; clear h1 h2 h3))
  clear HFL HDU p0 p1 p2 p3 p4 ps
  go_loopw [5] (fun rv wr => ∃ (rest out : List Df) (ov : Value), SumT T rest out ∧ Up W1 wr ∧ BoxC wr W1.heap.size 27 #[.slice sa sn sc, .slice ca cn cc, .slice pa pn pc, ov, .slice oa on_ oc] ∧ OwnD N w (W1.heap.size + 1) wr rv rest ∧ OwnD N w (W1.heap.size + 1) wr ov out ∧ ∀ g, rv.ownBlock = some g → ov.ownBlock ≠ some g) (fun rv _ => lenOf' rv)
  case atStart => exact ⟨defs, [], .slice none 0 0, HS0.out, ((Up.refl _).alloc _).grown' HG0.out (fun k e => by cases e), HBN.out.kept HG0.out (by simp [Value.ownBlock]), HR0.out, OwnL.nil, fun g _ e => by cases e⟩
  case round =>
    rename World => wr
    clear HR0 HG0 HBN HS0
    obtain ⟨rest, out, ov, hsum, hup, hbx, hrest, hout, hsep⟩ := hrel
    obtain ⟨ra, rc, rfl⟩ := hrest.shape
    obtain ⟨va, vc, rfl⟩ := hout.shape
    have HU := Lib.hid hup
    have HW := Lib.hid (HU1.out.trans hup)
    obtain ⟨n, hn⟩ : ∃ n, rest.length = n := ⟨_, rfl⟩
    obtain ⟨m, hm⟩ : ∃ m, out.length = m := ⟨_, rfl⟩
    have HNM : Hid (n + m ≤ 40) := Lib.hid (by rw [← hn, ← hm]; exact hsum.2.1)
    rw [hn] at hrest hsep ⊢
    rw [hm] at hout hsep hbx
    have HN := Lib.hid hn
    have HM := Lib.hid hm
    have HB := Lib.hid hbx
    have HR := Lib.hid hrest
    have HQ := Lib.hid hout
    have HSP := Lib.hid hsep
    have HSUM := Lib.hid hsum
    have hn40 : n ≤ 40 := by have := HNM.out; omega
    have hnI : (n : Int) ≤ 40 := by omega
    clear hsum hup hbx hrest hout hsep hn hm
    by_cases h0 : 0 < n
    · have h0I : (0 : Int) < n := by omega
      have HLR := Lib.hid (OwnD.ls HR.out (by have := HN.out; omega))
      go_wp2
      go_loopw [6] (fun kv y => ∃ k : Nat, kv = .int .i64 k ∧ k ≤ n ∧ NotR rest k ∧ Up wr y) (fun kv _ => n - (intOf kv).toNat)
      case atStart => exact ⟨0, rfl, Nat.zero_le _, NotR.zero rest, Up.refl _⟩
      case round =>
        rename World => y
        obtain ⟨k, rfl, hk, hnr, hupy⟩ := hrel
        have HNR := Lib.hid hnr
        have HUY := Lib.hid hupy
        clear hnr hupy
        by_cases hlt : k < n
        · have hltI : (k : Int) < n := by omega
          have hk1 : k < rest.length := by rw [HN.out]; exact hlt
          obtain ⟨g, o, cs, rfl, hg, hcs, hld, -, -, -⟩ := HLR.out.dfc k hk1
          have HTB := Lib.hid (HSUM.out.2.2 _ (List.getElem_mem hk1))
          have HNX := Lib.hid (HNR.out.next (hk := hk1))
          obtain ⟨d, hx⟩ : ∃ d, rest[k] = d := ⟨_, rfl⟩
          have HSTEP : Hid (rdyB rest d = true → topoL n rest out = topoL (n - 1) (rest.take k ++ rest.drop (k + 1)) (out ++ [d])) := Lib.hid (by
            intro h1
            obtain ⟨f, hf⟩ : ∃ f, n = f + 1 := ⟨n - 1, by omega⟩
            have e : n - 1 = f := by omega
            rw [e, hf]
            rw [← hx] at h1 ⊢
            exact topoL_step HN.out (by omega) hlt h1 (fun j hj => HNR.out j (by rw [HN.out]; omega) hj))
          rw [hx] at HTB hcs HNX
          have HCS := Lib.hid hcs
          have HLD := Lib.hid hld
          have HLY := Lib.hid (HLD.out y HUY.out)
          have hg' := Nat.lt_of_lt_of_le hg HUY.out.size
          have HG := Lib.hid hg
          obtain ⟨b, hb⟩ : ∃ b, rdyB rest d = b := ⟨_, rfl⟩
          have HRD := Lib.hid (r20_ready N w rest d _ _ y (HLR.out.up (fun _ _ _ _ h _ => h) HUY.out) (DefAt.up ⟨cs, rfl, HCS.out⟩ (HW.out.trans HUY.out)) HTB.out b hb)
          have HBB := Lib.hid hb
          clear hx hcs hld hg hk1 hb
          cases b
          · go_wp2_with (first
              | (refine st_loadG HLY.out (by rfl) (by rfl) ?_)
              | (go_at_call 41; (with_reducible refine HRD.out.mono ?_); rintro e' y2 ⟨rfl, hy⟩; have HY := Lib.hid hy; clear hy))
            go_roundw
            case rel => exact ⟨k + 1, by go_num, by omega, HNX.out HBB.out, HUY.out.trans HY.out⟩
            case measure => simp [intOf]; omega
          · go_upto_region 11 with (first
              | (refine st_loadG HLY.out (by rfl) (by rfl) ?_)
              | (go_at_call 41; (with_reducible refine HRD.out.mono ?_); rintro e' y2 ⟨rfl, hy⟩; have HY := Lib.hid (HUY.out.trans hy); clear hy))
            have HWY := Lib.hid (HW.out.trans HY.out)
            have HLDY := Lib.hid (fun x (hx : Up y2 x) => HLD.out x (HY.out.trans hx))
            have HBY := Lib.hid (HB.out.up HY.out)
            have q3 : y2.cell? ⟨W1.heap.size, 3, none⟩ = some (.slice va m vc) := cell_of_row _ _ _ _ _ _ HBY.out
            have qs := HBY.out.lt
            have hg2 : g < y2.heap.size := Nat.lt_of_lt_of_le HG.out HY.out.size
            refine wp_region_mk 7 (fun _ _ _ _ => False) (by kernel_rfl) (by kernel_rfl) ?_
            simp only [List.take_succ_cons, List.take_zero, List.drop_succ_cons, List.drop_zero]
            iterate 5 (refine wpMk_quiet anti_post (by kernel_rfl) ?_; go_big_quiet_step (fail); refine wpQuiet_nil ?_)
            refine wpMk_load anti_post (fun x hx => HLDY.out x hx) (by rfl) ?_
            simp only [Act.put, List.setIfInBounds_toArray, List.set_cons_succ, List.set_cons_zero]
            refine wpMk_build anti_post rowT_def (by decide) HCS.out.1 (by rfl) ?_
            intro bb hbb
            simp only [Act.put, List.setIfInBounds_toArray, List.set_cons_succ, List.set_cons_zero]
            refine wpMk_nil ?_
            rintro W2 hW2 ⟨-, hA⟩
            have HSL : Hid (LsAt 22 272 (fun _ => defR N w) W2 (.slice (some ⟨bb, 0, none⟩) 1 1) [d]) := Lib.hid (LsAt.blk HCS.out.1 (by decide) hA HCS.out.2)
            have HQ2 := Lib.hid (OwnL.up (fun _ _ _ _ h _ => h) HQ.out (HY.out.trans hW2))
            have HR2 := Lib.hid (OwnL.up (fun _ _ _ _ h _ => h) HR.out (HY.out.trans hW2))
            have HU2 := Lib.hid (HU.out.trans (HY.out.trans hW2))
            have HB2' := Lib.hid (HBY.out.up hW2)
            clear hA hbb hW2 q3 qs hg' hg2
            have hmI : (m : Int) ≤ 40 := by have := HNM.out; omega
            go_upto_region 13 with (at_builtin; refine st_app (mm := 1) rowT_def defQ_one HM.out (by rfl) (H := HQ2.out) (S := HSL.out) (by have := HNM.out; omega) (by decide) (by have := HB2'.out.lt; omega) (by rfl) (by rfl) ?_; intro ua2 uc2 w3 h1 h2 h3; have HQ3 := Lib.hid h1; have HU3 := Lib.hid (HU2.out.grown' h2 fun k e => by have := HQ.out.base k e; omega); have hb3 := HB2'.out.kept h2 (fun e => by have := HQ.out.base _ e.symm; omega); have HB3 := Lib.hid hb3; have HR3 := Lib.hid (own_keptL HR2.out h2 (fun g' hg' e => HSP.out g' hg' e.symm)); have HO3 : Hid (∀ g' : Nat, (Value.slice (some ⟨g, o, none⟩) n rc).ownBlock = some g' → (Value.slice ua2 (m + 1) uc2).ownBlock ≠ some g') := Lib.hid (fun g' hg' e => by rcases h3 with h | h; exact HSP.out g' hg' (h.symm.trans e); rw [h] at e; have := HR2.out.lt0 g' hg'; simp only [Option.some.injEq] at e; omega); have q3 : w3.cell? ⟨W1.heap.size, 3, none⟩ = some (.slice va m vc) := (cell_of_row _ _ _ _ _ _ hb3); have qs := hb3.lt; have qf := hb3.frozen 3; clear h1 h2 h3 hb3)
            refine wp_gen (F := fun z => Up W1 z ∧ BoxC z W1.heap.size 27 #[.slice sa sn sc, .slice ca cn cc, .slice pa pn pc, .slice ua2 (m + 1) uc2, .slice oa on_ oc] ∧ OwnD N w (W1.heap.size + 1) z (.slice (some ⟨g, o, none⟩) n rc) rest ∧ OwnD N w (W1.heap.size + 1) z (.slice ua2 (m + 1) uc2) (out ++ [d])) ⟨HU3.out.setCell (by show W1.heap.size ≤ W1.heap.size; exact Nat.le_refl _) _, set_heap HB3.out _, own_setR HR3.out HB3.out (Nat.lt_succ_self _) 3 _, own_setR HQ3.out HB3.out (Nat.lt_succ_self _) 3 _⟩ ?_
            rintro w4 ⟨hu4, hb4, hr4, hq4⟩
            have HU4 := Lib.hid hu4
            have HB4 := Lib.hid hb4
            have HR4 := Lib.hid hr4
            have HQ4 := Lib.hid hq4
            have HCP := Lib.hid hr4.cap
            have HLS4 := Lib.hid (OwnD.ls hr4 (by have := HN.out; omega))
            clear hu4 hb4 hr4 hq4 q3 qs qf
            have hkI : (k : Int) ≤ (rc : Int) := by have := HCP.out; omega
            have hnrI : (n : Int) ≤ (rc : Int) := by have := HCP.out; omega
            have hkn : (k : Int) ≤ n := by omega
            have hk1n : (k : Int) + 1 ≤ n := by omega
            have HTK := Lib.hid (HLS4.out.take k (by rw [HN.out]; omega))
            have HDP := Lib.hid (HLS4.out.drop (k + 1) (by rw [HN.out]; omega))
            have HTL : Hid ((rest.take k).length = k) := Lib.hid (by rw [List.length_take, HN.out]; omega)
            have HDL : Hid ((rest.drop (k + 1)).length = n - (k + 1)) := Lib.hid (by rw [List.length_drop, HN.out])
            have HLO : Hid (W1.heap.size + 1 ≤ w4.heap.size) := Lib.hid (by have := HB4.out.lt; omega)
            rcases Decidable.em (rc = k + 1) with rfl | hci
            · have HSD : Hid (LsAt 22 272 (fun _ => defR N w) w4 (.slice (some ⟨g, o, none⟩) (n - (k + 1)) 0) (rest.drop (k + 1))) := Lib.hid (by have := HDP.out; rw [if_pos rfl, Nat.sub_self] at this; exact this)
              clear HDP
              go_wp2_with (first
                | (at_builtin; (refine st_app (l := rest.take k) (n := k) (mm := n - (k + 1)) (base := w4.heap.size) rowT_def defQ_one HTL.out HDL.out (H := HX5.out) (S := HSD.out.up (fun _ _ _ _ h _ => h) HU5.out) (by omega) (by decide) HU5.out.size ?_ ?_ ?_); (rfl); (rfl); intro ya yc w6 h1 h2 h3; have HX6 := Lib.hid h1; have HG6 := Lib.hid h2; have HU6 := Lib.hid (HU5.out.grown' h2 fun k e => HX5.out.base k e); clear h1 h2 h3)
                | (at_builtin; (with_reducible refine st_app (l := []) (n := 0) (mm := k) (base := w4.heap.size) rowT_def defQ_one rfl HTL.out (H := OwnL.nil) (S := HTK.out) (by omega) (by decide) (Nat.le_refl _) ?_ ?_ ?_); (rfl); (rfl); intro xa xc w5 h1 h2 h3; simp only [Nat.zero_add, List.nil_append] at h1 h3 ⊢; have HX5 := Lib.hid h1; have HU5 := Lib.hid ((Up.refl w4).grown' h2 (fun k e => by cases e)); clear h1 h2 h3))
              go_roundw
              case rel =>
                refine ⟨rest.take k ++ rest.drop (k + 1), out ++ [d], .slice ua2 (m + 1) uc2, ⟨?_, ?_, ?_⟩, HU4.out.trans HU6.out, HB4.out.up HU6.out, OwnR.from HX6.out HLO.out, OwnL.up (fun _ _ _ _ h _ => h) HQ4.out HU6.out, fun g' hg' e => ?_⟩
                · have h1 := HSTEP.out HBB.out
                  have h2 := HSUM.out.1
                  rw [HN.out] at h2
                  rw [List.length_append, HTL.out, HDL.out, show k + (n - (k + 1)) = n - 1 by omega, ← h1, h2]
                · have := HNM.out
                  have := HM.out
                  rw [List.length_append, List.length_append, HTL.out, HDL.out]
                  simp only [List.length_cons, List.length_nil]
                  omega
                · intro e he
                  rcases List.mem_append.1 he with he | he
                  · exact HSUM.out.2.2 _ (List.mem_of_mem_take he)
                  · exact HSUM.out.2.2 _ (List.mem_of_mem_drop he)
                · have h1 := HX6.out.base _ hg'
                  have h2 := HQ4.out.lt0 _ e
                  omega
              case measure => simp [lenOf']; omega
            · have HSD : Hid (LsAt 22 272 (fun _ => defR N w) w4 (.slice (some ⟨g, o + (k + 1) * 22, none⟩) (n - (k + 1)) (rc - (k + 1))) (rest.drop (k + 1))) := Lib.hid (by have := HDP.out; rw [if_neg hci] at this; simp only [Option.map_some, add_lit_ne] at this; exact this)
              clear HDP
              go_wp2_with (first
                | (at_builtin; (refine st_app (l := rest.take k) (n := k) (mm := n - (k + 1)) (base := w4.heap.size) rowT_def defQ_one HTL.out HDL.out (H := HX5.out) (S := HSD.out.up (fun _ _ _ _ h _ => h) HU5.out) (by omega) (by decide) HU5.out.size ?_ ?_ ?_); (rfl); (rfl); intro ya yc w6 h1 h2 h3; have HX6 := Lib.hid h1; have HG6 := Lib.hid h2; have HU6 := Lib.hid (HU5.out.grown' h2 fun k e => HX5.out.base k e); clear h1 h2 h3)
                | (at_builtin; (with_reducible refine st_app (l := []) (n := 0) (mm := k) (base := w4.heap.size) rowT_def defQ_one rfl HTL.out (H := OwnL.nil) (S := HTK.out) (by omega) (by decide) (Nat.le_refl _) ?_ ?_ ?_); (rfl); (rfl); intro xa xc w5 h1 h2 h3; simp only [Nat.zero_add, List.nil_append] at h1 h3 ⊢; have HX5 := Lib.hid h1; have HU5 := Lib.hid ((Up.refl w4).grown' h2 (fun k e => by cases e)); clear h1 h2 h3))
              go_roundw
              case rel =>
                refine ⟨rest.take k ++ rest.drop (k + 1), out ++ [d], .slice ua2 (m + 1) uc2, ⟨?_, ?_, ?_⟩, HU4.out.trans HU6.out, HB4.out.up HU6.out, OwnR.from HX6.out HLO.out, OwnL.up (fun _ _ _ _ h _ => h) HQ4.out HU6.out, fun g' hg' e => ?_⟩
                · have h1 := HSTEP.out HBB.out
                  have h2 := HSUM.out.1
                  rw [HN.out] at h2
                  rw [List.length_append, HTL.out, HDL.out, show k + (n - (k + 1)) = n - 1 by omega, ← h1, h2]
                · have := HNM.out
                  have := HM.out
                  rw [List.length_append, List.length_append, HTL.out, HDL.out]
                  simp only [List.length_cons, List.length_nil]
                  omega
                · intro e he
                  rcases List.mem_append.1 he with he | he
                  · exact HSUM.out.2.2 _ (List.mem_of_mem_take he)
                  · exact HSUM.out.2.2 _ (List.mem_of_mem_drop he)
                · have h1 := HX6.out.base _ hg'
                  have h2 := HQ4.out.lt0 _ e
                  omega
              case measure => simp [lenOf']; omega
        · obtain rfl : n = k := by omega
          have HST : Hid (T = none) := Lib.hid (by
            obtain ⟨f, hf⟩ : ∃ f, n = f + 1 := ⟨n - 1, by omega⟩
            have h1 := HSUM.out.1
            rw [HN.out, hf] at h1
            rw [← h1]
            exact topoL_stop HN.out h0 (fun j hj => HNR.out j (by rw [HN.out]; exact hj) hj))
          have hr := HB2.out.up (HU.out.trans HUY.out)
          have HPT := Lib.hid (run_put (P := Try.prog) (k := 5) prog_info hr (cs := #[.slice none 0 0, .slice none 0 0, .slice none 0 0, .slice none 0 0, .slice none 0 0]) rfl rfl (by simp [Value.oneCell']))
          have HRB := Lib.hid (hr.row #[.slice none 0 0, .slice none 0 0, .slice none 0 0, .slice none 0 0, .slice none 0 0])
          clear hr
          go_wp2_with (refine st_store HPT.out (by rfl) (by rfl) ?_)
          obtain ⟨f0, f1, f2, f3, f4⟩ := HRB.out.five
          have HUR := Lib.hid ((HW.out.trans HUY.out).grown' (setRow_by y (w.heap.size + 1) #[.slice none 0 0, .slice none 0 0, .slice none 0 0, .slice none 0 0, .slice none 0 0]) (fun k e => by cases e; exact Nat.le_succ _))
          refine bodyPost_ret (v := .tuple #[.agg #[.slice none 0 0, .slice none 0 0, .slice none 0 0, .slice none 0 0, .slice none 0 0], .int .i64 9]) (by simp [results, Try.results24, go_sem, f0, f1, f2, f3, f4]) rfl ?_
          have HTF : Hid (topoF ⟨sizes, cons, pars, defs, outs⟩ = (zeroP, 9)) := Lib.hid (topoF_none (by show topoL defs.length defs [] = none; rw [HT.out, HST.out]))
          rw [HTF.out]
          exact ⟨_, rfl, HUR.out, zeroP_at N _⟩
    · obtain rfl : n = 0 := by omega
      have HST : Hid (T = some out) := Lib.hid (by
        have h1 := HSUM.out.1
        have h2 : rest = [] := List.eq_nil_of_length_eq_zero HN.out
        rw [h2, topoL_nil] at h1
        exact h1.symm)
      obtain ⟨e0, e1, e2, e3, e4⟩ := HB.out.five
      have es := HB.out.lt
      have hr := HB2.out.up HU.out
      have HPT := Lib.hid (run_put (P := Try.prog) (k := 5) prog_info hr (cs := #[.slice sa sn sc, .slice ca cn cc, .slice pa pn pc, .slice va m vc, .slice oa on_ oc]) rfl rfl (by simp [Value.oneCell']))
      have HRB := Lib.hid (hr.row #[.slice sa sn sc, .slice ca cn cc, .slice pa pn pc, .slice va m vc, .slice oa on_ oc])
      clear hr
      go_wp2_with (refine st_store HPT.out (by rfl) (by rfl) ?_)
      obtain ⟨f0, f1, f2, f3, f4⟩ := HRB.out.five
      have HUR := Lib.hid (HW.out.grown' (setRow_by wr (w.heap.size + 1) #[.slice sa sn sc, .slice ca cn cc, .slice pa pn pc, .slice va m vc, .slice oa on_ oc]) (fun k e => by cases e; exact Nat.le_succ _))
      have HSL : Hid (LsAt 22 272 (defR N) (wr.setRow (w.heap.size + 1) #[.slice sa sn sc, .slice ca cn cc, .slice pa pn pc, .slice va m vc, .slice oa on_ oc]) (.slice va m vc) out) := Lib.hid (by
        have h1 := own_keptL HQ.out (setRow_by wr (w.heap.size + 1) #[.slice sa sn sc, .slice ca cn cc, .slice pa pn pc, .slice va m vc, .slice oa on_ oc]) (fun g hg e => by cases e; have := HQ.out.base _ hg; have := HSZ1.out; omega)
        exact OwnD.done h1 (by have := HNM.out; have := HM.out; omega) HUR.out)
      refine bodyPost_ret (v := .tuple #[.agg #[.slice sa sn sc, .slice ca cn cc, .slice pa pn pc, .slice va m vc, .slice oa on_ oc], .int .i64 0]) (by simp [results, Try.results24, go_sem, f0, f1, f2, f3, f4]) rfl ?_
      have HTF : Hid (topoF ⟨sizes, cons, pars, defs, outs⟩ = (⟨sizes, cons, pars, out, outs⟩, 0)) := Lib.hid (topoF_some (p := ⟨sizes, cons, pars, defs, outs⟩) (by show topoL defs.length defs [] = some out; rw [HT.out, HST.out]))
      rw [HTF.out]
      exact ⟨_, rfl, HUR.out, ProgAt.mk (HS.out.up strR_up HUR.out) (HC.out.up conR_up HUR.out) (HP.out.up parR_up HUR.out) HSL.out (HO.out.up strR_up HUR.out)⟩
end Go.Proofs.Ytpccaifhcmcegaa
