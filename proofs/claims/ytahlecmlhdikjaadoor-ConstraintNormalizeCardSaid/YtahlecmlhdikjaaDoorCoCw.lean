/-
  Combine of the program's side: the walk.
-/
import Derived.Test.YtahlecmlhdikjaaDoorCoCb
import Derived.Test.YtahlecmlhdikjaaDoorLinAg
import Derived.Test.YtahlecmlhdikjaaDoorGe
import Derived.Test.YtahlecmlhdikjaaDoorGg
import Derived.Test.YtahlecmlhdikjaaDoorGf
import Derived.BigRegion
namespace Go.Proofs.YtahlecmlhdikjaaDoor
open Go.ChangeShapes Go.WideShapes Go.ChangeAt Go.RowKit
set_option linter.unusedVariables false
set_option linter.unusedSimpArgs false
set_option maxRecDepth 100000

def IntsAt (w : World) (v : Value) (bs : List Int) : Prop := SlAt w v bs.length 1 (fun i _ => .int .i64 (bs.getD i 0)) ∧ ∀ b ∈ bs, In64 b
theorem IntsAt.up {w w' : World} {v : Value} {bs : List Int} (h : IntsAt w v bs) (u : Up w w') : IntsAt w' v bs := ⟨h.1.up u, h.2⟩
theorem IntsAt.elem {w wr : World} {v : Value} {bs : List Int} (h : IntsAt w v bs) (hU : Up w wr) (k : Nat) (hk : k < bs.length) {n : Nat} (hn : bs.length = n) {a : Option Addr} {cap : Nat} (hv : v = .slice a n cap) :
    ∃ bl off y, a = some ⟨bl, off, none⟩ ∧ bl < w.heap.size ∧ bs.getD k 0 = y ∧ wr.cell? ⟨bl, off + k, none⟩ = some (.int .i64 y) ∧ In64 y := by
  subst hn
  obtain ⟨⟨⟨a', cap', hv', h0, hc⟩, hmax⟩, hr⟩ := h
  rw [hv'] at hv
  simp only [Value.slice.injEq] at hv
  obtain ⟨rfl, -, rfl⟩ := hv
  cases a' with
  | none => exact absurd (h0 rfl) (by omega)
  | some x =>
    obtain ⟨g1, g2, g3⟩ := hc x rfl (by omega)
    obtain ⟨bl, off, sp⟩ := x
    have g1' : sp = none := g1
    subst g1'
    have g2' : bl < w.heap.size := g2
    have k0 := (hU.cell _ _ g2').trans (g3 k 0 hk (by omega))
    refine ⟨bl, off, bs.getD k 0, rfl, g2', rfl, by simpa using k0, ?_⟩
    rw [List.getD_eq_getElem?_getD, List.getElem?_eq_getElem hk]
    exact hr _ (List.getElem_mem hk)
theorem lt_alloc' (w : World) (o : Obj) : w.heap.size < (w.alloc o).heap.size := by rw [size_alloc]; omega
def CmbR (w : World) (r : Con × Int) (e : Ending) (w' : World) : Prop := (∃ v, e = .returned (.tuple #[.agg #[.int .i64 r.1.1, v, .bool r.1.2.2], .int .i64 r.2]) ∧ Part w' v r.1.2.1) ∧ Up w w'

theorem drop_con {cs : List Con} {i : Nat} (hlt : i < cs.length) {c : Con} (hg : cs.getD i c0 = c) : cs.drop i = c :: cs.drop (i + 1) := by
  have := List.drop_eq_getElem_cons (l := cs) (i := i) hlt
  rw [this]
  congr 1
  rw [List.getD_eq_getElem?_getD, List.getElem?_eq_getElem hlt] at hg
  exact hg
theorem drop_int {bs : List Int} {i : Nat} (hlt : i < bs.length) {c : Int} (hg : bs.getD i 0 = c) : bs.drop i = c :: bs.drop (i + 1) := by
  have := List.drop_eq_getElem_cons (l := bs) (i := i) hlt
  rw [this]
  congr 1
  rw [List.getD_eq_getElem?_getD, List.getElem?_eq_getElem hlt] at hg
  exact hg

/-- What stands behind the first assignment of the second loop. -/
def CmbCut (x : World) (Ks es : Int) (ls : List Mono) (s12 s13 : Value) (wx : World) : Prop :=
  ∃ (p : Nat) (a3 : Option Addr) (c3 m3 : Nat), s12 = .pointer (some ⟨p, 0, none⟩) ∧ s13 = .int .i64 es ∧ x.heap.size ≤ p ∧ Up x wx ∧ Part wx (.slice a3 m3 c3) ls ∧ wx.heap[p]? = some (.cells #[.int .i64 Ks, .slice a3 m3 c3] 24 (0, 0))
theorem lin_set2 {x : World} {v : Value} {D : List Mono} {p : Nat} {K K' : Int} {s s' : Option Addr} {n n' c c' : Nat} (h : Part x v D) (hA : x.heap[p]? = some (.cells #[.int .i64 K, .slice s n c] 24 (0, 0))) :
    Part ((x.setCell ⟨p, 0, none⟩ (.int .i64 K')).setCell ⟨p, 1, none⟩ (.slice s' n' c')) v D :=
  (h.apart hA (by intro i s; rcases i with _ | _ | i <;> simp) 0 _).apart (cs := #[.int .i64 K', .slice s n c]) (set_heap hA _) (by intro i s; rcases i with _ | _ | i <;> simp) 1 _

set_option maxHeartbeats 8000000 in
theorem con_Combine (v bv : Value) (cs : List Con) (bs : List Int) (w : World) (hv : ConsAt w v cs) (hb : IntsAt w bv bs) (hlen : ∀ c ∈ cs, c.2.1.length ≤ 40) (hsz : cs.length ≤ 60) :
    Calls Tryd.prog 29 #[v, bv] w (CmbR w (combF cs bs)) := by
  obtain ⟨r, hr⟩ : ∃ r, combF cs bs = r := ⟨_, rfl⟩
  rw [hr]
  obtain ⟨⟨a, cap, rfl⟩, hmax⟩ := hv.slice
  obtain ⟨⟨a', cap', rfl, -, -⟩, hmax'⟩ := id hb.1
  obtain ⟨n, hn⟩ : ∃ n, cs.length = n := ⟨_, rfl⟩
  obtain ⟨n', hn'⟩ : ∃ n', bs.length = n' := ⟨_, rfl⟩
  have HV : Hid (ConsAt w (.slice a n cap) cs) := Lib.hid (by rw [← hn]; exact hv)
  have HB : Hid (IntsAt w (.slice a' n' cap') bs) := Lib.hid (by rw [← hn']; exact hb)
  rw [hn] at hmax hsz ⊢
  rw [hn'] at hmax' ⊢
  have HN := Lib.hid hn
  have HN' := Lib.hid hn'
  have HL := Lib.hid hlen
  have HRR : Hid ((if n ≠ n' then ((c0, 1) : Con × Int) else if chkF cs bs ≠ 0 then (c0, chkF cs bs) else cmbF cs bs (0, [], true)) = r) := Lib.hid (by rw [← hr]; unfold combF; rw [hn, hn'])
  clear hn hn' hr hv hb hlen
  have hI : (n : Int) ≤ 60 := by omega
  go_enter Tryd.func29, Tryd.ntmps29
  have HU1 : Hid (Up w (w.alloc (.cells #[.int .i64 0, .slice none 0 0, .bool false] 26))) := Lib.hid ((Up.refl w).alloc _)
  by_cases hnn : n = n'
  · subst hnn
    replace HRR : Hid ((if chkF cs bs ≠ 0 then ((c0, chkF cs bs) : Con × Int) else cmbF cs bs (0, [], true)) = r) := Lib.hid (by have := HRR.out; rw [if_neg (by simp)] at this; exact this)
    obtain ⟨q, hq⟩ : ∃ q, chkF cs bs = q := ⟨_, rfl⟩
    have HQ := Lib.hid hq
    have HR : Hid (w.heap[w.heap.size]? = none) := Lib.hid (by simp)
    clear hq HR
    go_wp2
    obtain ⟨W1, hW1⟩ : ∃ x, w.alloc (.cells #[.int .i64 0, .slice none 0 0, .bool false] 26) = x := ⟨_, rfl⟩
    have hRB : W1.heap[w.heap.size]? = some (.cells #[.int .i64 0, .slice none 0 0, .bool false] 26 (0, 0)) := hW1 ▸ heap_alloc_new w _
    have hs1 : w.heap.size < W1.heap.size := by rw [← hW1, size_alloc]; omega
    rw [hW1] at HU1 ⊢
    have HRB := Lib.hid hRB
    clear hW1 hRB
    go_loopw [23] (fun iv wr => ∃ (i : Nat), i ≤ n ∧ iv = .int .i64 i ∧ chkF (cs.drop i) (bs.drop i) = q ∧ Up W1 wr) (fun iv _ => n - (intOf iv).toNat)
    case atStart => exact ⟨0, by omega, rfl, by rw [List.drop_zero, List.drop_zero]; exact HQ.out, Up.refl _⟩
    case round =>
      rename World => wr
      obtain ⟨i, hi, rfl, hch, hU⟩ := hrel
      have HU := Lib.hid hU
      have HCH := Lib.hid hch
      have r0 : wr.cell? ⟨w.heap.size, 0, none⟩ = some (.int .i64 0) := (hU.cell _ _ hs1).trans (cell_of_row _ _ _ _ _ _ HRB.out)
      have r1 : wr.cell? ⟨w.heap.size, 1, none⟩ = some (.slice none 0 0) := (hU.cell _ _ hs1).trans (cell_of_row _ _ _ _ _ _ HRB.out)
      have r2 : wr.cell? ⟨w.heap.size, 2, none⟩ = some (.bool false) := (hU.cell _ _ hs1).trans (cell_of_row _ _ _ _ _ _ HRB.out)
      have rf : ∀ o, wr.frozen? ⟨w.heap.size, o, none⟩ = false := fun o => (hU.frozen _ o hs1).trans (frozen_of_row _ _ _ _ _ HRB.out)
      have hs2 : w.heap.size < wr.heap.size := Nat.lt_of_lt_of_le hs1 hU.size
      clear hU hch
      by_cases hlt : i < n
      · have hltI : (i : Int) < n := by omega
        obtain ⟨bl, off, lv, K, l, b, ha, hbl, hg, k0, k1, k2, hp, hKr⟩ := HV.out.elem (HU1.out.trans HU.out) i (by rw [HN.out]; exact hlt) HN.out rfl
        subst ha
        obtain ⟨bl', off', y, ha', hbl', hg', k3, hy⟩ := HB.out.elem (HU1.out.trans HU.out) i (by rw [HN'.out]; exact hlt) HN'.out rfl
        subst ha'
        have hd := drop_con (by rw [HN.out]; exact hlt) hg
        have hd' := drop_int (by rw [HN'.out]; exact hlt) hg'
        have HC2 : Hid ((if okL l then (if decide (y < 0) && !b then 1 else chkF (cs.drop (i + 1)) (bs.drop (i + 1))) else (1 : Int)) = q) := Lib.hid (by rw [← HCH.out, hd, hd']; rfl)
        obtain ⟨g, hgo⟩ : ∃ g, okL l = g := ⟨_, rfl⟩
        rw [hgo] at HC2
        have HP := Lib.hid hp
        obtain ⟨al, capl, rfl⟩ := hp.1.slice
        obtain ⟨nl, hnl⟩ : ∃ n, l.length = n := ⟨_, rfl⟩
        rw [hnl] at HP k1
        have HVA : Hid (∀ w, MonosAt w (.slice al nl capl) l → Calls Tryd.prog 18 #[.agg #[.int .i64 K, .slice al nl capl, .bool b]] w fun e w' => e = .returned (.int .i64 (errOf g)) ∧ Up w w') := Lib.hid fun w h => by
          rw [← hgo]; exact con_Validate K _ l b w h
        have hb1 : bl < wr.heap.size := by have := HU1.out.size; have := HU.out.size; omega
        have hb2 : bl' < wr.heap.size := by have := HU1.out.size; have := HU.out.size; omega
        clear hg hg' hd hd' hp hKr hgo hnl hbl hbl' HCH
        go_wp2_with fail
        refine (HVA.out _ (HP.out.1.up ((Up.refl wr).alloc _))).mono ?_
        rintro e x2 ⟨rfl, hx2⟩
        have hsx := hx2.size
        rw [size_alloc] at hsx
        have p2 : x2.cell? ⟨wr.heap.size, 2, none⟩ = some (.bool b) := (hx2.cell _ _ (by rw [size_alloc]; omega)).trans (by go_simp)
        have hUa : Up wr x2 := ((Up.refl wr).alloc (.cells #[.int .i64 K, .slice al nl capl, .bool b] 26)).trans hx2
        have rr0 := (hUa.cell _ _ hs2).trans r0
        have rr1 := (hUa.cell _ _ hs2).trans r1
        have rr2 := (hUa.cell _ _ hs2).trans r2
        have rrf := fun o => (hUa.frozen _ o hs2).trans (rf o)
        have k3' := (hUa.cell _ _ hb2).trans k3
        have HU2 := Lib.hid (HU.out.trans hUa)
        have hs3 := Nat.lt_of_lt_of_le hs2 hUa.size
        have hb3 := Nat.lt_of_lt_of_le hb2 hUa.size
        have q9 : wr.heap.size < x2.heap.size := by omega
        obtain ⟨y0, y1⟩ := hy
        clear hUa hx2 hsx r0 r1 r2 rf k0 k1 k2 k3 hs2 hb1 hb2
        cases g
        · rw [show errOf false = 1 from rfl]
          have HG : Hid (r = (c0, 1)) := Lib.hid (by
            have h1 := HC2.out
            rw [if_neg (by decide)] at h1
            rw [← HRR.out, HQ.out, ← h1]; rfl)
          go_wp2
          refine bodyPost_ret (v := .tuple #[.agg #[.int .i64 0, .slice none 0 0, .bool false], .int .i64 1]) (by first | (simp [results, Tryd.results29, go_sem, rr0, rr1, rr2]; done) | go_simp) rfl ?_
          rw [HG.out]
          exact ⟨⟨_, rfl, Part.nil _ _ _⟩, by repeat (first | exact (HU1.out.trans HU2.out) | refine Up.setCell ?_ (by show w.heap.size ≤ w.heap.size; omega) _)⟩
        · rw [show errOf true = 0 from rfl]
          replace HC2 := Lib.hid ((if_pos rfl).symm.trans HC2.out)
          have hnx : ∀ h : (decide (y < 0) && !b) = false, Hid (chkF (cs.drop (i + 1)) (bs.drop (i + 1)) = q) := fun h => Lib.hid (by have := HC2.out; rw [h] at this; exact this)
          by_cases hy0 : y < 0
          · cases b
            · have HG : Hid (r = (c0, 1)) := Lib.hid (by
                have h1 := HC2.out
                rw [if_pos (by simp [hy0])] at h1
                rw [← HRR.out, HQ.out, ← h1]; rfl)
              go_wp2
              refine bodyPost_ret (v := .tuple #[.agg #[.int .i64 0, .slice none 0 0, .bool false], .int .i64 1]) (by first | (simp [results, Tryd.results29, go_sem, rr0, rr1, rr2]; done) | go_simp) rfl ?_
              rw [HG.out]
              exact ⟨⟨_, rfl, Part.nil _ _ _⟩, by repeat (first | exact (HU1.out.trans HU2.out) | refine Up.setCell ?_ (by show w.heap.size ≤ w.heap.size; omega) _)⟩
            · have HX := hnx (by simp)
              go_wp2
              go_roundw
              case rel => exact ⟨i + 1, by omega, by go_num, HX.out, HU2.out⟩
              case measure => simp [intOf]; omega
          · have HX := hnx (by simp [hy0])
            go_wp2
            go_roundw
            case rel => exact ⟨i + 1, by omega, by go_num, HX.out, HU2.out⟩
            case measure => simp [intOf]; omega
      · obtain rfl : i = n := by omega
        have HR0 : Hid (cmbF cs bs (0, [], true) = r) := Lib.hid (by
          have h1 := HCH.out
          rw [List.drop_eq_nil_of_le (by rw [HN.out]; omega)] at h1
          have h1 : (0 : Int) = q := h1
          have h2 := HRR.out
          rw [HQ.out, ← h1, if_neg (by simp)] at h2
          exact h2)
        have hltI : ¬ (i : Int) < (i : Int) := by omega
        go_wp2
        obtain ⟨O, hO⟩ : ∃ O, wr.heap.size = O := ⟨_, rfl⟩
        obtain ⟨W2, hW2⟩ : ∃ x, wr.alloc (.cells #[.int .i64 0, .slice none 0 0, .bool true] 26) = x := ⟨_, rfl⟩
        have hO2 : W2.heap[O]? = some (.cells #[.int .i64 0, .slice none 0 0, .bool true] 26 (0, 0)) := hW2 ▸ hO ▸ heap_alloc_new wr _
        have hUW : Up W1 W2 := hW2 ▸ (HU.out.alloc _)
        have hOs : w.heap.size < O := by rw [← hO]; exact hs2
        have hOw : W1.heap.size ≤ O := by rw [← hO]; exact HU.out.size
        try rw [hO]
        rw [hW2]
        have HUW := Lib.hid hUW
        have HO2 := Lib.hid hO2
        clear hO hW2 hO2 hUW r0 r1 r2 rf hs2 HCH HU HRR HQ
        go_loopw [49] (fun iv x => ∃ (j : Nat) (K1 : Int) (v1 : Value) (l1 : List Mono) (e1 : Bool), j ≤ i ∧ iv = .int .i64 j ∧ cmbF (cs.drop j) (bs.drop j) (K1, l1, e1) = r ∧ Part x v1 l1 ∧ In64 K1 ∧ l1.length ≤ 40 * j ∧ x.heap[O]? = some (.cells #[.int .i64 K1, v1, .bool e1] 26 (0, 0)) ∧ Up W1 x) (fun iv _ => i - (intOf iv).toNat)
        case atStart => exact ⟨0, 0, .slice none 0 0, [], true, by omega, rfl, HR0.out, Part.nil _ _ _, ⟨by decide, by decide⟩, by simp, HO2.out, HUW.out⟩
        case round =>
          rename World => x
          obtain ⟨j, K1, v1, l1, e1, hj, rfl, hcm, hp1, hK1, hl1, hOx, hU⟩ := hrel
          have HU := Lib.hid hU
          have HCM := Lib.hid hcm
          have HK1 := Lib.hid hK1
          have HL1 := Lib.hid hl1
          have HP1 := Lib.hid hp1
          have HOX := Lib.hid hOx
          have rr0 : x.cell? ⟨w.heap.size, 0, none⟩ = some (.int .i64 0) := (hU.cell _ _ hs1).trans (cell_of_row _ _ _ _ _ _ HRB.out)
          have rr1 : x.cell? ⟨w.heap.size, 1, none⟩ = some (.slice none 0 0) := (hU.cell _ _ hs1).trans (cell_of_row _ _ _ _ _ _ HRB.out)
          have rr2 : x.cell? ⟨w.heap.size, 2, none⟩ = some (.bool false) := (hU.cell _ _ hs1).trans (cell_of_row _ _ _ _ _ _ HRB.out)
          have rrf : ∀ o, x.frozen? ⟨w.heap.size, o, none⟩ = false := fun o => (hU.frozen _ o hs1).trans (frozen_of_row _ _ _ _ _ HRB.out)
          have hs2 : w.heap.size < x.heap.size := Nat.lt_of_lt_of_le hs1 hU.size
          have hOl : O < x.heap.size := (Array.getElem?_eq_some_iff.1 hOx).1
          have o0 : x.cell? ⟨O, 0, none⟩ = some (.int .i64 K1) := cell_of_row _ _ _ _ _ _ hOx
          have o1 : x.cell? ⟨O, 1, none⟩ = some v1 := cell_of_row _ _ _ _ _ _ hOx
          have o2 : x.cell? ⟨O, 2, none⟩ = some (.bool e1) := cell_of_row _ _ _ _ _ _ hOx
          have of : ∀ o, x.frozen? ⟨O, o, none⟩ = false := fun o => frozen_of_row _ _ _ _ _ hOx
          obtain ⟨a1, c1, rfl⟩ := hp1.1.slice
          obtain ⟨n1, hn1⟩ : ∃ n, l1.length = n := ⟨_, rfl⟩
          rw [hn1] at HP1 HOX o1
          clear hU hcm hp1 hK1 hl1 hOx hn1
          by_cases hlt : j < i
          · have hltI : (j : Int) < i := by omega
            obtain ⟨bl, off, lv, K, l, b, ha, hbl, hg, k0, k1, k2, hp, hKr⟩ := HV.out.elem (HU1.out.trans HU.out) j (by rw [HN.out]; exact hlt) HN.out rfl
            subst ha
            obtain ⟨bl', off', y, ha', hbl', hg', k3, hy⟩ := HB.out.elem (HU1.out.trans HU.out) j (by rw [HN'.out]; exact hlt) HN'.out rfl
            subst ha'
            have hd := drop_con (by rw [HN.out]; exact hlt) hg
            have hd' := drop_int (by rw [HN'.out]; exact hlt) hg'
            have hmem : (K, l, b) ∈ cs := List.mem_of_mem_drop (i := j) (by rw [hd]; exact List.mem_cons_self)
            have hl40 := HL.out _ hmem
            dsimp only at hl40
            obtain ⟨⟨Ks, ls, es⟩, hs⟩ : ∃ s, scaleF K l y = s := ⟨_, rfl⟩
            have hsb := scaleF_bounds K l y
            rw [hs] at hsb
            obtain ⟨sb1, sb2, sb3⟩ := hsb
            dsimp only at sb1 sb2 sb3
            obtain ⟨⟨Ka, la, ea⟩, had⟩ : ∃ s, addF K1 l1 Ks ls = s := ⟨_, rfl⟩
            have hab := addF_bounds K1 l1 Ks ls
            rw [had] at hab
            obtain ⟨ab1, ab2, ab3⟩ := hab
            dsimp only at ab1 ab2 ab3
            have HC2 : Hid ((if es ≠ 0 then ((c0, es) : Con × Int) else if ea ≠ 0 then (c0, ea) else cmbF (cs.drop (j + 1)) (bs.drop (j + 1)) (Ka, la, e1 && (b || decide (y = 0)))) = r) := Lib.hid (by
              rw [← HCM.out, hd, hd']
              rw [cmbF]
              dsimp only
              rw [hs]
              dsimp only
              rw [had])
            have HP := Lib.hid hp
            obtain ⟨al, capl, rfl⟩ := hp.1.slice
            obtain ⟨nl, hnl⟩ : ∃ n, l.length = n := ⟨_, rfl⟩
            rw [hnl] at HP k1
            have HSC : Hid (∀ x, Part x (.slice al nl capl) l → Calls Tryd.prog 39 #[.agg #[.int .i64 K, .slice al nl capl], .int .i64 y] x fun e x' => ∃ v, e = .returned v ∧ Up x x' ∧ (∃ a3 c3 m3, v = .tuple #[.agg #[.int .i64 Ks, .slice a3 m3 c3], .int .i64 es] ∧ Part x' (.slice a3 m3 c3) ls)) := Lib.hid fun x h => by
              refine (lin_ScaleF K y _ l x h.1 hKr h.2.1 hy (by omega)).mono ?_
              rintro e w' ⟨⟨v, rfl, hv, hc, hfr⟩, hu⟩
              rw [hs] at hv ⊢
              dsimp only at hv ⊢
              obtain ⟨a3, c3, rfl⟩ := hv.slice
              exact ⟨_, rfl, hu, a3, c3, _, rfl, hv, sb2, hc⟩
            have HAD : Hid (∀ x v v', Part x v l1 → Part x v' ls → Calls Tryd.prog 57 #[.agg #[.int .i64 K1, v], .agg #[.int .i64 Ks, v']] x fun e x' => LinErrF x e x' (Ka, la, ea) ∧ Up x x') := Lib.hid fun x v v' h h' => had ▸ lin_AddG K1 Ks v v' l1 ls x h h' HK1.out sb1 (by have := HL1.out; omega) (by omega)
            have HAB : Hid (In64 Ka ∧ Rng la ∧ la.length ≤ 40 * (j + 1)) := Lib.hid ⟨ab1, ab2, by have := HL1.out; omega⟩
            have hb1 : bl < x.heap.size := by have := HU1.out.size; have := HU.out.size; omega
            have hb2 : bl' < x.heap.size := by have := HU1.out.size; have := HU.out.size; omega
            obtain ⟨y0, y1⟩ := hy
            have hbO : bl' < O := by have := HU1.out.size; omega
            have hbN : O ≠ bl' := by omega
            clear hg hg' hd hd' hp hKr hbl hbl' HCM hmem hl40 hs sb1 sb2 sb3 had ab1 ab2 ab3 hnl
            go_upto_region 16 with fail
            obtain ⟨P, hP⟩ : ∃ P, x.heap.size = P := ⟨_, rfl⟩
            obtain ⟨xp, hxp⟩ : ∃ y, x.alloc (.cells #[.int .i64 K, .slice al nl capl, .bool b] 26) = y := ⟨_, rfl⟩
            have hUp : Up x xp := hxp ▸ (Up.refl x).alloc _
            have hPA : xp.heap[P]? = some (.cells #[.int .i64 K, .slice al nl capl, .bool b] 26 (0, 0)) := hxp ▸ hP ▸ heap_alloc_new x _
            have hPl : P < xp.heap.size := (Array.getElem?_eq_some_iff.1 hPA).1
            rw [hxp]
            try rw [hP]
            have t0 : xp.cell? ⟨P, 0, none⟩ = some (.int .i64 K) := cell_of_row _ _ _ _ _ _ hPA
            have t1 : xp.cell? ⟨P, 1, none⟩ = some (.slice al nl capl) := cell_of_row _ _ _ _ _ _ hPA
            have t2 : xp.cell? ⟨P, 2, none⟩ = some (.bool b) := cell_of_row _ _ _ _ _ _ hPA
            replace rr0 := (hUp.cell _ _ hs2).trans rr0
            replace rr1 := (hUp.cell _ _ hs2).trans rr1
            replace rr2 := (hUp.cell _ _ hs2).trans rr2
            replace rrf := fun o => (hUp.frozen _ o hs2).trans (rrf o)
            replace o0 := (hUp.cell _ _ hOl).trans o0
            replace o1 := (hUp.cell _ _ hOl).trans o1
            replace o2 := (hUp.cell _ _ hOl).trans o2
            replace of := fun o => (hUp.frozen _ o hOl).trans (of o)
            replace HOX := Lib.hid ((hUp.heap _ hOl).trans HOX.out)
            replace k3 := (hUp.cell _ _ hb2).trans k3
            replace HP1 := Lib.hid (HP1.out.up hUp)
            replace HU := Lib.hid (HU.out.trans hUp)
            replace hs2 := Nat.lt_of_lt_of_le hs2 hUp.size
            replace hOl := Nat.lt_of_lt_of_le hOl hUp.size
            replace hb2 := Nat.lt_of_lt_of_le hb2 hUp.size
            replace HP := Lib.hid (HP.out.up hUp)
            clear hUp hPA hxp hP k0 k1 k2 hb1
            go_cut [12, 13] from 54 to 63 (fun s12 s13 wx => CmbCut xp Ks es ls s12 s13 wx)
            case first =>
              go_region_with (first
                | (go_at_call 39; refine (HSC.out _ (HP.out.up (by repeat (first | exact Up.refl _ | refine Up.drew ?_ | refine Up.alloc ?_ _)))).mono ?_; rintro e x8 ⟨v, rfl, hx8, a3, c3, m3, rfl, hp3⟩; have HP3 := Lib.hid hp3; have HX8 := Lib.hid (Up.trans (by repeat (first | exact Up.refl _ | refine Up.drew ?_ | refine Up.alloc ?_ _)) hx8 : Up xp x8); (try have zzl : xp.heap.size < x8.heap.size := Nat.lt_of_lt_of_le (lt_alloc' xp.drew _) hx8.size); (try have zz0 : x8.cell? ⟨xp.heap.size, 0, none⟩ = some (.int .i64 0) := (hx8.cell _ _ (lt_alloc' xp.drew _)).trans (cell_of_row _ _ _ _ _ _ (heap_alloc_new xp.drew _))); (try have zz1 : x8.cell? ⟨xp.heap.size, 1, none⟩ = some (.slice none 0 0) := (hx8.cell _ _ (lt_alloc' xp.drew _)).trans (cell_of_row _ _ _ _ _ _ (heap_alloc_new xp.drew _))); (try have zzf : ∀ o, x8.frozen? ⟨xp.heap.size, o, none⟩ = false := fun o => (hx8.frozen _ o (lt_alloc' xp.drew _)).trans (frozen_of_row _ _ _ _ _ (heap_alloc_new xp.drew _))); have HXX := Lib.hid hx8; clear hp3 hx8))
              all_goals
                go_wp2_with fail
                go_meet
                first
                  | exact ⟨x8.heap.size, a3, c3, m3, rfl, rfl, HX8.out.size, HX8.out.alloc _, HP3.out.up ((Up.refl x8).alloc _), heap_alloc_new x8 _⟩
                  | exact ⟨x8.heap.size, a3, c3, m3, rfl, rfl, HX8.out.size, HX8.out.drew.alloc _, HP3.out.up ((Up.refl x8).drew.alloc _), heap_alloc_new x8.drew _⟩
                  | exact ⟨xp.heap.size, a3, c3, m3, rfl, rfl, Nat.le_refl _, (HX8.out.setCell (Nat.le_refl xp.heap.size) _).setCell (Nat.le_refl xp.heap.size) _, lin_set2 HP3.out ((HXX.out.heap _ (lt_alloc' xp.drew _)).trans (heap_alloc_new xp.drew _)), set_heap (set_heap ((HXX.out.heap _ (lt_alloc' xp.drew _)).trans (heap_alloc_new xp.drew _)) _) _⟩
            case rest =>
              obtain ⟨p, a3, c3, m3, rfl, rfl, hpp, hUc, hp3, hpr⟩ := hcut
              replace rr0 := (hUc.cell _ _ hs2).trans rr0
              replace rr1 := (hUc.cell _ _ hs2).trans rr1
              replace rr2 := (hUc.cell _ _ hs2).trans rr2
              replace rrf := fun o => (hUc.frozen _ o hs2).trans (rrf o)
              replace o0 := (hUc.cell _ _ hOl).trans o0
              replace o1 := (hUc.cell _ _ hOl).trans o1
              replace o2 := (hUc.cell _ _ hOl).trans o2
              replace of := fun o => (hUc.frozen _ o hOl).trans (of o)
              replace HOX := Lib.hid ((hUc.heap _ hOl).trans HOX.out)
              replace k3 := (hUc.cell _ _ hb2).trans k3
              replace t2 := (hUc.cell _ _ hPl).trans t2
              replace HP1 := Lib.hid (HP1.out.up hUc)
              replace HU := Lib.hid (HU.out.trans hUc)
              replace hs2 := Nat.lt_of_lt_of_le hs2 hUc.size
              replace hOl := Nat.lt_of_lt_of_le hOl hUc.size
              replace hb2 := Nat.lt_of_lt_of_le hb2 hUc.size
              replace hPl := Nat.lt_of_lt_of_le hPl hUc.size
              have z0 : wc.cell? ⟨p, 0, none⟩ = some (.int .i64 Ks) := cell_of_row _ _ _ _ _ _ hpr
              have z1 : wc.cell? ⟨p, 1, none⟩ = some (.slice a3 m3 c3) := cell_of_row _ _ _ _ _ _ hpr
              have hpl : p < wc.heap.size := (Array.getElem?_eq_some_iff.1 hpr).1
              have HP3 := Lib.hid hp3
              clear hUc hp3 hpr hpp t0 t1
              by_cases he : es = 0
              · subst he
                replace HC2 : Hid ((if ea ≠ 0 then ((c0, ea) : Con × Int) else cmbF (cs.drop (j + 1)) (bs.drop (j + 1)) (Ka, la, e1 && (b || decide (y = 0)))) = r) := Lib.hid (by have := HC2.out; rw [if_neg (by simp)] at this; exact this)
                go_wp2_with fail
                refine (HAD.out _ _ _ HP1.out HP3.out).mono ?_
                rintro e x11 ⟨⟨v4, rfl, hv4, hc4, -⟩, hx11⟩
                dsimp only at hv4
                obtain ⟨a4, c4, rfl⟩ := hv4.slice
                obtain ⟨n4, hn4⟩ : ∃ n, la.length = n := ⟨_, rfl⟩
                rw [hn4] at hv4 hc4 ⊢
                have HP4 : Hid (Part x11 (.slice a4 n4 c4) la) := Lib.hid ⟨hv4, HAB.out.2.1, hc4⟩
                replace rr0 := (hx11.cell _ _ hs2).trans rr0
                replace rr1 := (hx11.cell _ _ hs2).trans rr1
                replace rr2 := (hx11.cell _ _ hs2).trans rr2
                replace rrf := fun o => (hx11.frozen _ o hs2).trans (rrf o)
                replace o0 := (hx11.cell _ _ hOl).trans o0
                replace o1 := (hx11.cell _ _ hOl).trans o1
                replace o2 := (hx11.cell _ _ hOl).trans o2
                replace of := fun o => (hx11.frozen _ o hOl).trans (of o)
                replace HOX := Lib.hid ((hx11.heap _ hOl).trans HOX.out)
                replace k3 := (hx11.cell _ _ hb2).trans k3
                replace t2 := (hx11.cell _ _ hPl).trans t2
                replace HU := Lib.hid (HU.out.trans hx11)
                replace hs2 := Nat.lt_of_lt_of_le hs2 hx11.size
                replace hOl := Nat.lt_of_lt_of_le hOl hx11.size
                replace hb2 := Nat.lt_of_lt_of_le hb2 hx11.size
                replace hPl := Nat.lt_of_lt_of_le hPl hx11.size
                clear hx11 hv4 hc4 hn4 HP1 HP3 z0 z1 hpl HP
                by_cases hea : ea = 0
                · subst hea
                  replace HC2 : Hid (cmbF (cs.drop (j + 1)) (bs.drop (j + 1)) (Ka, la, e1 && (b || decide (y = 0))) = r) := Lib.hid (by have := HC2.out; rw [if_neg (by simp)] at this; exact this)
                  have k4 : ((x11.setCell ⟨O, 0, none⟩ (.int .i64 Ka)).setCell ⟨O, 1, none⟩ (.slice a4 n4 c4)).cell? ⟨bl', off' + j, none⟩ = some (.int .i64 y) := (set_cell_ne hbN).trans ((set_cell_ne hbN).trans k3)
                  have k5 : (((x11.setCell ⟨O, 0, none⟩ (.int .i64 Ka)).setCell ⟨O, 1, none⟩ (.slice a4 n4 c4)).alloc (.cells #[.int .i64 Ka, .slice a4 n4 c4] 24)).cell? ⟨bl', off' + j, none⟩ = some (.int .i64 y) := (((Up.refl _).alloc _).cell _ _ (by rw [set_size, set_size]; exact hb2)).trans k4
                  obtain ⟨eq, heq⟩ : ∃ q, (e1 && (b || decide (y = 0))) = q := ⟨_, rfl⟩
                  rw [heq] at HC2
                  have HSO : Hid ((((x11.setCell ⟨O, 0, none⟩ (.int .i64 Ka)).setCell ⟨O, 1, none⟩ (.slice a4 n4 c4)).setCell ⟨O, 2, none⟩ (.bool eq)).heap[O]? = some (.cells #[.int .i64 Ka, .slice a4 n4 c4, .bool eq] 26 (0, 0))) := Lib.hid (set_heap (set_heap (set_heap HOX.out _) _) _)
                  have HROW : Hid (((((x11.setCell ⟨O, 0, none⟩ (.int .i64 Ka)).setCell ⟨O, 1, none⟩ (.slice a4 n4 c4)).setCell ⟨O, 2, none⟩ (.bool eq)).alloc (.cells #[.int .i64 Ka, .slice a4 n4 c4] 24)).heap[O]? = some (.cells #[.int .i64 Ka, .slice a4 n4 c4, .bool eq] 26 (0, 0))) := Lib.hid ((((Up.refl (((x11.setCell ⟨O, 0, none⟩ (.int .i64 Ka)).setCell ⟨O, 1, none⟩ (.slice a4 n4 c4)).setCell ⟨O, 2, none⟩ (.bool eq))).alloc _).heap _ (by rw [set_size, set_size, set_size]; exact hOl)).trans HSO.out)
                  have HPN : Hid (Part ((((x11.setCell ⟨O, 0, none⟩ (.int .i64 Ka)).setCell ⟨O, 1, none⟩ (.slice a4 n4 c4)).setCell ⟨O, 2, none⟩ (.bool eq)).alloc (.cells #[.int .i64 Ka, .slice a4 n4 c4] 24)) (.slice a4 n4 c4) la) := Lib.hid ((HP4.out.set3 HOX.out (by simp) (by simp) (by simp) (by simp) (by simp) (by simp)).up ((Up.refl _).alloc _))
                  have HUN : Hid (Up W1 ((((x11.setCell ⟨O, 0, none⟩ (.int .i64 Ka)).setCell ⟨O, 1, none⟩ (.slice a4 n4 c4)).setCell ⟨O, 2, none⟩ (.bool eq)).alloc (.cells #[.int .i64 Ka, .slice a4 n4 c4] 24))) := Lib.hid ((((HU.out.setCell hOw _).setCell hOw _).setCell hOw _).alloc _)
                  have HIN : Hid (In64 Ka ∧ la.length ≤ 40 * (j + 1)) := Lib.hid ⟨HAB.out.1, HAB.out.2.2⟩
                  have HEQ := Lib.hid heq
                  clear heq HSO HP4 HOX HAB HAD HSC
                  cases e1
                  · obtain rfl : eq = false := by rw [← HEQ.out]; rfl
                    go_wp2
                    go_roundw
                    case rel => exact ⟨j + 1, Ka, _, la, false, by omega, by go_num, HC2.out, HPN.out, HIN.out.1, HIN.out.2, HROW.out, HUN.out⟩
                    case measure => simp [intOf]; omega
                  · cases b
                    · by_cases hy : y = 0
                      · obtain rfl : eq = true := by rw [← HEQ.out]; simp [hy]
                        subst hy
                        go_wp2
                        go_roundw
                        case rel => exact ⟨j + 1, Ka, _, la, true, by omega, by go_num, HC2.out, HPN.out, HIN.out.1, HIN.out.2, HROW.out, HUN.out⟩
                        case measure => simp [intOf]; omega
                      · have hy2 : (y == 0) = false := by simpa using hy
                        obtain rfl : eq = false := by rw [← HEQ.out]; simp [hy]
                        go_wp2
                        go_roundw
                        case rel => exact ⟨j + 1, Ka, _, la, false, by omega, by go_num, HC2.out, HPN.out, HIN.out.1, HIN.out.2, HROW.out, HUN.out⟩
                        case measure => simp [intOf]; omega
                    · obtain rfl : eq = true := by rw [← HEQ.out]; simp
                      go_wp2
                      go_roundw
                      case rel => exact ⟨j + 1, Ka, _, la, true, by omega, by go_num, HC2.out, HPN.out, HIN.out.1, HIN.out.2, HROW.out, HUN.out⟩
                      case measure => simp [intOf]; omega
                · have hea2 : (ea == 0) = false := by simpa using hea
                  have HG : Hid (r = (c0, ea)) := Lib.hid (by have := HC2.out; rw [if_pos hea] at this; exact this.symm)
                  have rx : ∀ (o : Nat) (S : World), w.heap.size < S.heap.size → (S.alloc (.cells #[.int .i64 Ka, .slice a4 n4 c4] 24)).cell? ⟨w.heap.size, o, none⟩ = S.cell? ⟨w.heap.size, o, none⟩ := fun o S h => ((Up.refl S).alloc _).cell _ _ h
                  go_wp2
                  refine bodyPost_ret (v := .tuple #[.agg #[.int .i64 0, .slice none 0 0, .bool false], .int .i64 ea]) (by first | (simp [results, Tryd.results29, go_sem, rr0, rr1, rr2, rx, set_size, hs2]; done) | go_simp) rfl ?_
                  rw [HG.out]
                  exact ⟨⟨_, rfl, Part.nil _ _ _⟩, by repeat (first | exact (HU1.out.trans HU.out) | refine Up.alloc ?_ _ | refine Up.setCell ?_ (by show w.heap.size ≤ w.heap.size; omega) _)⟩
              · have he2 : (es == 0) = false := by simpa using he
                have HG : Hid (r = (c0, es)) := Lib.hid (by have := HC2.out; rw [if_pos he] at this; exact this.symm)
                go_wp2
                refine bodyPost_ret (v := .tuple #[.agg #[.int .i64 0, .slice none 0 0, .bool false], .int .i64 es]) (by first | (simp [results, Tryd.results29, go_sem, rr0, rr1, rr2]; done) | go_simp) rfl ?_
                rw [HG.out]
                exact ⟨⟨_, rfl, Part.nil _ _ _⟩, by repeat (first | exact (HU1.out.trans HU.out) | refine Up.alloc ?_ _ | refine Up.setCell ?_ (by show w.heap.size ≤ w.heap.size; omega) _)⟩
          · obtain rfl : j = i := by omega
            have HG : Hid (r = ((K1, l1, e1), 0)) := Lib.hid (by
              have h1 := HCM.out
              rw [List.drop_eq_nil_of_le (by rw [HN.out]; omega)] at h1
              rw [← h1]; rfl)
            have hltI : ¬ (j : Int) < (j : Int) := by omega
            go_wp2
            refine bodyPost_ret (v := .tuple #[.agg #[.int .i64 K1, .slice a1 n1 c1, .bool e1], .int .i64 0]) (by first | (simp [results, Tryd.results29, go_sem, rr0, rr1, rr2]; done) | go_simp) rfl ?_
            rw [HG.out]
            have hRR : x.heap[w.heap.size]? = some (.cells #[.int .i64 0, .slice none 0 0, .bool false] 26 (0, 0)) := (HU.out.heap _ hs1).trans HRB.out
            exact ⟨⟨_, rfl, HP1.out.set3 hRR (by simp) (by simp) (by simp) (by simp) (by simp) (by simp)⟩, by repeat (first | exact (HU1.out.trans HU.out) | refine Up.setCell ?_ (by show w.heap.size ≤ w.heap.size; omega) _)⟩
  · have hnI : ((n : Int) == (n' : Int)) = false := by simpa using (by omega : ¬ (n : Int) = (n' : Int))
    have HG : Hid (r = (c0, 1)) := Lib.hid (by rw [← HRR.out, if_pos hnn])
    go_wp2
    refine bodyPost_ret (v := .tuple #[.agg #[.int .i64 0, .slice none 0 0, .bool false], .int .i64 1]) (by first | (simp [results, Tryd.results29, go_sem]; done) | go_simp) rfl ?_
    rw [HG.out]
    exact ⟨⟨_, rfl, Part.nil _ _ _⟩, by repeat (first | exact Up.refl _ | refine Up.alloc ?_ _ | refine Up.setCell ?_ (by show w.heap.size ≤ w.heap.size; omega) _)⟩
end Go.Proofs.YtahlecmlhdikjaaDoor
