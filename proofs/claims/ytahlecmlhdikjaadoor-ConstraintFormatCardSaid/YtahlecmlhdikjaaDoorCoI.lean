/-
  insert of the program's side: the walk.
-/
import Derived.Test.YtahlecmlhdikjaaDoorGi
namespace Go.Proofs.YtahlecmlhdikjaaDoor
open Go.ChangeShapes Go.WideShapes Go.ChangeAt Go.RowKit
set_option linter.unusedVariables false
set_option linter.unusedSimpArgs false
set_option maxRecDepth 100000

def InsR (W0 : World) (B : Nat) (r : List Con × Bool) (e : Ending) (w' : World) : Prop := ∃ v' vs', e = .returned (.tuple #[v', .bool r.2]) ∧ RowC W0 B w' v' r.1 vs' ∧ Up W0 w'

set_option maxHeartbeats 8000000 in
theorem con_insert (W0 : World) (B : Nat) (hB : W0.heap.size = B) (v lv : Value) (cs : List Con) (vs : Nat → Value) (K : Int) (l : List Mono) (b : Bool) (w : World) (hU0 : Up W0 w) (hrow : RowC W0 B w v cs vs) (hp : Part W0 lv l) (hK : In64 K) (hlen : cs.length ≤ 300) :
    Calls Tryd.prog 50 #[v, .agg #[.int .i64 K, lv, .bool b]] w (InsR W0 B (insF (K, l, b) cs)) := by
  obtain ⟨i0, hi0, hz0, hz1, hz2⟩ := info_parts con_info
  obtain ⟨r, hr⟩ : ∃ r, insF (K, l, b) cs = r := ⟨_, rfl⟩
  rw [hr]
  obtain ⟨a, cap, hva⟩ := own_slice hrow.1
  subst hva
  obtain ⟨n, hn⟩ : ∃ n, cs.length = n := ⟨_, rfl⟩
  rw [hn] at hlen hrow ⊢
  have hnI : (n : Int) ≤ 300 := by omega
  have HN := Lib.hid hn
  have HRW := Lib.hid hrow
  have HU0 := Lib.hid hU0
  have HP := Lib.hid hp
  have HK := Lib.hid hK
  have HB := Lib.hid hB
  have HR : Hid (insG (K, l, b) cs cs 0 n = r) := Lib.hid (by rw [← hr, ← hn]; rfl)
  have HCA : Hid (ConsAt w (.slice a n cap) cs) := Lib.hid (hrow.cons hU0 (by omega))
  have HBW : Hid (B ≤ w.heap.size) := Lib.hid (hB ▸ hU0.size)
  have HGB : Hid (∀ g, (Value.slice a n cap).ownBlock = some g → B ≤ g ∧ g < w.heap.size) := Lib.hid fun g hg => ⟨own_base hrow.1 g hg, own_blk hrow.1 g hg⟩
  obtain ⟨al, capl, rfl⟩ := hp.1.slice
  obtain ⟨nl, hnl⟩ : ∃ n, l.length = n := ⟨_, rfl⟩
  rw [hnl] at HP ⊢
  clear hr hrow hU0 hp hK hn hnl hB
  go_enter Tryd.func50, Tryd.ntmps50
  go_wp2
  obtain ⟨S, hS⟩ : ∃ S, w.heap.size = S := ⟨_, rfl⟩
  have hal : Up w (w.alloc (.cells #[.int .i64 K, .slice al nl capl, .bool b] 26)) := (Up.refl w).alloc _
  have hrw : (w.alloc (.cells #[.int .i64 K, .slice al nl capl, .bool b] 26)).heap[S]? = some (.cells #[.int .i64 K, .slice al nl capl, .bool b] 26 (0, 0)) := hS ▸ heap_alloc_new w _
  have hsz : (w.alloc (.cells #[.int .i64 K, .slice al nl capl, .bool b] 26)).heap.size = S + 1 := by rw [size_alloc, hS]
  obtain ⟨W1, hW1⟩ : ∃ W, w.alloc (.cells #[.int .i64 K, .slice al nl capl, .bool b] 26) = W := ⟨_, rfl⟩
  rw [hW1] at hal hrw hsz ⊢
  try rw [hS]
  have HS := Lib.hid hS
  have HAL := Lib.hid hal
  have HRB := Lib.hid hrw
  have HSZ := Lib.hid hsz
  clear hW1 hS hal hrw hsz
  go_loopw [6, 15] (fun av iv wr => ∃ (i p : Nat), i ≤ n ∧ p ≤ n ∧ iv = .int .i64 i ∧ av = .int .i64 p ∧ Up W1 wr ∧ insG (K, l, b) cs (cs.drop i) i p = r) (fun _ iv _ => n - (intOf iv).toNat)
  case atStart => exact ⟨0, n, by omega, by omega, rfl, rfl, Up.refl _, by rw [List.drop_zero]; exact HR.out⟩
  case round =>
    rename World => wr
    obtain ⟨i, p, hi, hpn, rfl, rfl, hU, hf⟩ := hrel
    have HU := Lib.hid hU
    have HUw := Lib.hid (HAL.out.trans hU)
    have hsw := hU.size
    rw [HSZ.out] at hsw
    have s0 : wr.cell? ⟨S, 0, none⟩ = some (.int .i64 K) := cell_of_row _ _ _ _ _ _ ((hU.heap S (by rw [HSZ.out]; omega)).trans HRB.out)
    have s1 : wr.cell? ⟨S, 1, none⟩ = some (.slice al nl capl) := cell_of_row _ _ _ _ _ _ ((hU.heap S (by rw [HSZ.out]; omega)).trans HRB.out)
    have s2 : wr.cell? ⟨S, 2, none⟩ = some (.bool b) := cell_of_row _ _ _ _ _ _ ((hU.heap S (by rw [HSZ.out]; omega)).trans HRB.out)
    have sz : S < wr.heap.size := by omega
    clear hU
    by_cases hlt : i < n
    · have hltI : (i : Int) < n := by omega
      have hiI : (0 : Int) ≤ i := by omega
      obtain ⟨bl, off, vx, Kx, lx, bx, ha, hbl, hg, k0, k1, k2, hpx, hKx⟩ := HCA.out.elem HUw.out i (by rw [HN.out]; exact hlt) HN.out (by first | rfl | rw [HN.out])
      subst ha
      obtain ⟨g0, g1, g2⟩ : off = 0 ∧ B ≤ bl ∧ bl < w.heap.size := by
        obtain ⟨h1, h2⟩ := HGB.out bl rfl
        refine ⟨?_, h1, h2⟩
        rcases HRW.out.1.2 with ⟨h3, _⟩ | ⟨g, c', cur, h3, _⟩
        · cases h3
        · cases h3; rfl
      subst g0
      simp only [Nat.zero_add] at k0 k1 k2
      rw [HS.out] at g2
      have hblw : bl < wr.heap.size := by omega
      have hfz : ∀ o, wr.frozen? ⟨bl, o, none⟩ = false := fun o => by
        obtain ⟨g, c', he, _, _, _, h5, _⟩ := own_get HRW.out.1 (by rw [HN.out]; omega)
        cases he
        rw [HUw.out.frozen _ _ (by rw [HS.out]; exact g2)]
        exact h5 o
      rw [con_getD (by rw [HN.out]; exact hlt) hg, insG_cons] at hf
      have HF := Lib.hid hf
      obtain ⟨ax, capx, rfl⟩ := hpx.1.slice
      obtain ⟨nx, hnx⟩ : ∃ n, lx.length = n := ⟨_, rfl⟩
      rw [hnx] at hpx k1
      have HPX := Lib.hid hpx
      have HKX := Lib.hid hKx
      obtain ⟨q, hq⟩ : ∃ q, eqM lx l = q := ⟨_, rfl⟩
      have HSM : Hid (∀ w, MonosAt w (.slice ax nx capx) lx → MonosAt w (.slice al nl capl) l → Calls Tryd.prog 71 #[.agg #[.int .i64 Kx, .slice ax nx capx], .agg #[.int .i64 K, .slice al nl capl]] w fun e w' => e = .returned (.bool q) ∧ Up w w') := Lib.hid fun w h h' => hq ▸ con_sameMonos Kx K _ _ lx l w h h'
      have HGD := Lib.hid hg
      have HVX : Hid (Part W0 (vs i) lx ∧ In64 Kx ∧ vs i = .slice ax nx capx) := Lib.hid (by
        have h1 := HRW.out.2 i (by rw [HN.out]; exact hlt)
        rw [hg] at h1
        refine ⟨h1.1, h1.2, ?_⟩
        have h2 := own_get HRW.out.1 (by rw [HN.out]; omega)
        obtain ⟨g, c', he, _, h3, _, _, h4⟩ := h2
        cases he
        have h5 := h4 (i * 3 + 1) (vs i) (flat_get _ _ _ _ _ (by rw [HN.out]; exact hlt) (by omega))
        rw [HUw.out.cell _ _ h3, h5] at k1
        exact Option.some.inj k1)
      dsimp only at HF
      rw [hq] at HF
      clear hf hpx hKx hnx hq hg hbl
      go_wp2_with fail
      refine (HSM.out _ (HPX.out.1.up ((Up.refl wr).alloc _)) (HP.out.1.up (HU0.out.trans (HUw.out.trans ((Up.refl wr).alloc _))))).mono ?_
      rintro e x1 ⟨rfl, hx1⟩
      have hsx := hx1.size
      rw [size_alloc] at hsx
      have e0 : x1.cell? ⟨wr.heap.size, 0, none⟩ = some (.int .i64 Kx) := (hx1.cell _ _ (by rw [size_alloc]; omega)).trans (by go_simp)
      have e1 : x1.cell? ⟨wr.heap.size, 1, none⟩ = some (.slice ax nx capx) := (hx1.cell _ _ (by rw [size_alloc]; omega)).trans (by go_simp)
      have e2 : x1.cell? ⟨wr.heap.size, 2, none⟩ = some (.bool bx) := (hx1.cell _ _ (by rw [size_alloc]; omega)).trans (by go_simp)
      have ez : wr.heap.size < x1.heap.size := by omega
      have hxx := (((Up.refl wr).alloc (.cells #[.int .i64 Kx, .slice ax nx capx, .bool bx] 26)).trans hx1)
      have HU1 := Lib.hid (HUw.out.trans hxx)
      have HUL := Lib.hid (HU.out.trans hxx)
      replace s0 := (hxx.cell _ _ sz).trans s0
      replace s1 := (hxx.cell _ _ sz).trans s1
      replace s2 := (hxx.cell _ _ sz).trans s2
      replace k0 := (hxx.cell _ _ hblw).trans k0
      replace k1 := (hxx.cell _ _ hblw).trans k1
      replace k2 := (hxx.cell _ _ hblw).trans k2
      replace hfz := fun o => (hxx.frozen _ o hblw).trans (hfz o)
      replace sz := Nat.lt_of_lt_of_le sz hxx.size
      replace hblw := Nat.lt_of_lt_of_le hblw hxx.size
      have HPX1 := Lib.hid (HPX.out.up hxx)
      clear hx1 hxx hsx HSM
      cases q
      · have HF2 : Hid (insG (K, l, b) cs (cs.drop (i + 1)) (i + 1) (if p = cs.length ∧ compareF K l Kx lx < 0 then i else p) = r) := Lib.hid (by have := HF.out; rw [if_neg (by decide)] at this; exact this)
        rw [HN.out] at HF2
        by_cases hpe : p = n
        · obtain ⟨cf, hcf⟩ : ∃ c, compareF K l Kx lx = c := ⟨_, rfl⟩
          have HCM : Hid (∀ w, MonosAt w (.slice al nl capl) l → MonosAt w (.slice ax nx capx) lx → Calls Tryd.prog 73 #[.agg #[.int .i64 K, .slice al nl capl], .agg #[.int .i64 Kx, .slice ax nx capx]] w fun e w' => e = .returned (.int .i64 cf) ∧ Up w w') := Lib.hid fun w h h' => hcf ▸ lin_Compare K Kx _ _ l lx w h h'
          rw [hcf] at HF2
          have hpe2 : ((p : Int) == (n : Int)) = true := by simp [hpe]
          have HPE := Lib.hid hpe
          clear hcf hpe
          go_wp2_with fail
          refine (HCM.out _ (HP.out.1.up (HU0.out.trans HU1.out)) HPX1.out.1).mono ?_
          rintro e x2 ⟨rfl, hx2⟩
          have HU2 := Lib.hid (HUL.out.trans hx2)
          clear hx2 HCM
          by_cases hc : cf < 0
          · have HG : Hid (insG (K, l, b) cs (cs.drop (i + 1)) (i + 1) i = r) := Lib.hid (by have := HF2.out; rw [if_pos ⟨HPE.out, hc⟩] at this; exact this)
            go_wp2
            go_roundw
            case rel => exact ⟨i + 1, i, by omega, by omega, by go_num, rfl, HU2.out, HG.out⟩
            case measure => simp [intOf]; omega
          · have HG : Hid (insG (K, l, b) cs (cs.drop (i + 1)) (i + 1) p = r) := Lib.hid (by have := HF2.out; rw [if_neg (fun h => hc h.2)] at this; exact this)
            go_wp2
            go_roundw
            case rel => exact ⟨i + 1, p, by omega, by omega, by go_num, rfl, HU2.out, HG.out⟩
            case measure => simp [intOf]; omega
        · have HG : Hid (insG (K, l, b) cs (cs.drop (i + 1)) (i + 1) p = r) := Lib.hid (by have := HF2.out; rw [if_neg (fun h => hpe h.1)] at this; exact this)
          have hpe2 : ((p : Int) == (n : Int)) = false := by simp; omega
          go_wp2
          go_roundw
          case rel => exact ⟨i + 1, p, by omega, by omega, by go_num, rfl, HUL.out, HG.out⟩
          case measure => simp [intOf]; omega
      · have HF2 : Hid ((cs.set i (keepC (Kx, lx, bx) (K, l, b)), agreeC (Kx, lx, bx) (K, l, b)) = r) := Lib.hid (by have := HF.out; rw [if_pos rfl] at this; exact this)
        obtain ⟨ag, hag⟩ : ∃ g, agree Kx K bx b = g := ⟨_, rfl⟩
        obtain ⟨q, hq⟩ : ∃ q, keepL Kx K bx b = q := ⟨_, rfl⟩
        have HME : Hid (∀ w, Calls Tryd.prog 72 #[.agg #[.int .i64 Kx, .slice ax nx capx, .bool bx], .agg #[.int .i64 K, .slice al nl capl, .bool b]] w (MergeR w (.agg #[.int .i64 Kx, .slice ax nx capx, .bool bx]) (.agg #[.int .i64 K, .slice al nl capl, .bool b]) q ag)) := Lib.hid fun w => by
          rw [← hag, ← hq]; exact con_merge Kx K _ _ bx b w ⟨_, _, _, rfl⟩ ⟨_, _, _, rfl⟩ HKX.out HK.out
        have HF3 : Hid ((cs.set i (if q then (Kx, lx, bx) else (K, l, b)), ag) = r) := Lib.hid (by
          rw [← HF2.out]; unfold keepC agreeC; dsimp only; rw [hq, hag])
        clear hag hq HF2
        go_wp2_with fail
        refine (HME.out _).mono ?_
        rintro e x2 ⟨rfl, hx2⟩
        replace k0 := (hx2.cell _ _ hblw).trans k0
        replace k1 := (hx2.cell _ _ hblw).trans k1
        replace k2 := (hx2.cell _ _ hblw).trans k2
        replace hfz := fun o => (hx2.frozen _ o hblw).trans (hfz o)
        replace hblw := Nat.lt_of_lt_of_le hblw hx2.size
        have HU2 := Lib.hid (HU1.out.trans hx2)
        clear hx2 HME e0 e1 e2 s0 s1 s2
        have h30 : (i : Int) * 3 = ((i * 3 : Nat) : Int) := by omega
        cases q
        · rw [show (if (false : Bool) = true then (Value.agg #[.int .i64 Kx, .slice ax nx capx, .bool bx]) else .agg #[.int .i64 K, .slice al nl capl, .bool b]) = .agg #[.int .i64 K, .slice al nl capl, .bool b] from rfl]
          go_wp2
          go_ret2
          have hww : W0.heap.size ≤ bl := by rw [HB.out]; exact g1
          have HX := Lib.hid (((HRW.out.up HU2.out).set HN.out i hlt K (.slice al nl capl) l b HP.out HK.out).up ((Up.refl _).alloc (.cells #[.int .i64 K, .slice al nl capl, .bool b] 26)))
          obtain rfl := HF3.out
          exact ⟨.slice (some ⟨bl, 0, none⟩) n cap, _, rfl, HX.out, ((((HU0.out.trans HU2.out).setCell (by exact hww) _).setCell (by exact hww) _).setCell (by exact hww) _).alloc _⟩
        · rw [show (if (true : Bool) = true then (Value.agg #[.int .i64 Kx, .slice ax nx capx, .bool bx]) else .agg #[.int .i64 K, .slice al nl capl, .bool b]) = .agg #[.int .i64 Kx, .slice ax nx capx, .bool bx] from rfl]
          go_wp2
          go_ret2
          have hww : W0.heap.size ≤ bl := by rw [HB.out]; exact g1
          have HX := Lib.hid (((HRW.out.up HU2.out).set HN.out i hlt Kx (.slice ax nx capx) lx bx (HVX.out.2.2 ▸ HVX.out.1) HKX.out).up ((Up.refl _).alloc (.cells #[.int .i64 Kx, .slice ax nx capx, .bool bx] 26)))
          obtain rfl := HF3.out
          exact ⟨.slice (some ⟨bl, 0, none⟩) n cap, _, rfl, HX.out, ((((HU0.out.trans HU2.out).setCell (by exact hww) _).setCell (by exact hww) _).setCell (by exact hww) _).alloc _⟩
    · obtain rfl : i = n := by omega
      have HG : Hid ((cs.take p ++ (K, l, b) :: cs.drop p, true) = r) := Lib.hid (by rw [← hf, List.drop_eq_nil_of_le (show cs.length ≤ i by rw [HN.out]; exact Nat.le_refl _)]; rfl)
      clear hf hlt
      have HPS : Hid (∀ j, j < i → Part W0 (vs j) (cs.getD j c0).2.1 ∧ In64 (cs.getD j c0).1) := Lib.hid fun j hj => HRW.out.2 j (by rw [HN.out]; exact hj)
      have HOW : Hid (w.ownsRow B 26 3 (.slice a i cap) i (flat (conF cs vs) i 3)) := Lib.hid (by have := HRW.out.1; rw [HN.out] at this; exact this)
      have HONE : Hid (∀ i j, i < 1 → j < 3 → (conF [(K, l, b)] (fun _ => Value.slice al nl capl) i j).oneCell' = true) := Lib.hid (fun i j _ hj => by
        rcases (by omega : j = 0 ∨ j = 1 ∨ j = 2) with rfl | rfl | rfl <;> rfl)
      go_upto_region 13 with (at_builtin; refine wpList_append_sl _ rfl _ _ 28 rfl B 26 i0 _ 3 40 Tryd.underlying28 hi0 hz0 hz1 hz2 rfl (by decide) (.slice a i cap) i _ rfl (own_up' HOW.out (HUw.out.alloc _)) (.slice (some ⟨wr.heap.size, 0, none⟩) 1 1) 1 _ rfl (con_sl wr K (.slice al nl capl) l b) HONE.out (by unfold maxLen; omega) (by omega) (by have := HUw.out.size; have := HBW.out; simp; omega) ?_; intro v2 w1 hown1 hg1 hat1 hnil1; obtain ⟨vb, vd, rfl⟩ := own_slice hown1; have HO1 := Lib.hid hown1; have HG1 := Lib.hid hg1; have HAT := Lib.hid hat1; clear hown1 hg1 hat1 hnil1)
      have HON : Hid (w1.ownsRow B 26 3 (.slice vb (i + 1) vd) (i + 1) (flat (conI cs vs K (.slice al nl capl) l b i) (i + 1) 3)) := Lib.hid ((con_snoc cs vs K (.slice al nl capl) l b i) ▸ HO1.out)
      obtain ⟨g, cg, hvb, hgB, hgs, hgc, hgf, hgx⟩ := own_get HO1.out (by omega)
      simp only [Value.slice.injEq, true_and] at hvb
      obtain ⟨rfl, rfl⟩ := hvb
      have hS1 : some S ≠ (Value.slice a i cap).ownBlock := fun e => by
        have := (HGB.out S e.symm).2
        rw [HS.out] at this; omega
      have hrS : w1.heap[S]? = some (.cells #[.int .i64 K, .slice al nl capl, .bool b] 26 (0, 0)) := by
        rw [HG1.out.block S (by rw [size_alloc]; omega) hS1]
        exact (((HU.out.alloc _).heap S (by rw [HSZ.out]; omega))).trans HRB.out
      have c0 : w1.cell? ⟨S, 0, none⟩ = some (.int .i64 K) := cell_of_row _ _ _ _ _ _ hrS
      have c1 : w1.cell? ⟨S, 1, none⟩ = some (.slice al nl capl) := cell_of_row _ _ _ _ _ _ hrS
      have c2 : w1.cell? ⟨S, 2, none⟩ = some (.bool b) := cell_of_row _ _ _ _ _ _ hrS
      have hSg : S ≠ g := fun e => by
        subst e
        rcases HAT.out with h3 | h3
        · exact hS1 h3
        · have h4 := Option.some.inj h3
          rw [size_alloc] at h4
          have h5 : S = wr.heap.size + 1 := h4
          omega
      clear s0 s1 s2 sz hsw
      have hpI : (0 : Int) ≤ (p : Int) := by omega
      by_cases hpn2 : p < i
      · have a1 : (p : Int) + 1 ≤ (i : Int) + 1 := by omega
        have a2 : p + 1 < vd := by omega
        have a3 : p < vd := by omega
        have a4 : (p : Int) + 1 < (vd : Int) := by omega
        refine wp_region_mk 7 (fun _ _ _ _ => False) (by kernel_rfl) (by kernel_rfl) ?_
        simp only [List.take_succ_cons, List.take_zero, List.drop_succ_cons, List.drop_zero]
        iterate 7 (refine wpMk_quiet anti_post (by kernel_rfl) ?_; go_big_quiet_step (fail); refine wpQuiet_nil ?_)
        refine wpMk_nil ?_
        rintro x9 hx9 -
        have HX9 := Lib.hid hx9
        clear hx9
        obtain ⟨cur, hcur, hcs, hcc, hcx, hown9⟩ := own_shift (by omega : 0 < 3) (own_up' HON.out HX9.out) hpn2
        have HCU := Lib.hid hcur
        have HCX := Lib.hid hcx
        have HO9 := Lib.hid hown9
        clear hcur hcx hown9
        obtain ⟨CS, hCS⟩ : ∃ CS, (List.range ((i - p) * 3)).map (fun q => conI cs vs K (.slice al nl capl) l b i (p + q / 3) (q % 3)) = CS := ⟨_, rfl⟩
        have hCL : CS.length = (i - p) * 3 := by rw [← hCS]; simp
        have HC1 : Hid (∀ j v, CS[j]? = some v → x9.cell? ((⟨g, p * 3, none⟩ : Addr).add j) = some v) := Lib.hid fun j v hj => by
          have hjl : j < (i - p) * 3 := by have := (List.getElem?_eq_some_iff.1 hj).1; omega
          rw [← hCS, List.getElem?_map, List.getElem?_range hjl] at hj
          rw [add_lit_ne, cell_of_row _ _ _ _ _ _ HCU.out, HCX.out (p * 3 + j) (by omega)]
          rw [← hj]
          have e1 : (p * 3 + j) / 3 = p + j / 3 := by omega
          have e2 : (p * 3 + j) % 3 = j % 3 := by omega
          rw [e1, e2]; rfl
        have HC2 : Hid (∀ v ∈ CS, v.oneCell' = true) := Lib.hid fun v hv => by
          rw [← hCS] at hv
          obtain ⟨q, hq, rfl⟩ := List.mem_map.1 hv
          have hq' := List.mem_range.1 hq
          exact conI_one (fun j hj => (HPS.out j hj).1) _ _ (by omega) (by omega)
        have hmin : Nat.min (i + 1 - p) (i - p) = i - p := Nat.min_eq_right (by omega)
        rw [hCS, ← hCL] at HO9
        refine wpList_copyk rfl _ _ _ _ rfl 26 3 Tryd.underlying28 con_size g ((p + 1) * 3) (i - p) (vd - (p + 1)) ⟨g, p * 3, none⟩ (i + 1 - p) (vd - p) rfl rfl cur 26 HCU.out CS (by rw [hmin, hCL]) HC1.out (by rw [hcs, hCL]; omega) HC2.out ?_
        have HUX : Hid (Up W0 (x9.setRow g (cur.toList.take ((p + 1) * 3) ++ CS ++ cur.toList.drop ((p + 1) * 3 + CS.length)).toArray)) := Lib.hid (by
          have h1 : Up W0 w1 := (HU0.out.trans (HUw.out.alloc _)).grown HG1.out fun g hg => by rw [HB.out]; exact (HGB.out g hg).1
          exact below_setRow (h1.trans HX9.out) (by rw [HB.out]; exact hgB) _)
        have hrS9 : (x9.setRow g (cur.toList.take ((p + 1) * 3) ++ CS ++ cur.toList.drop ((p + 1) * 3 + CS.length)).toArray).heap[S]? = some (.cells #[.int .i64 K, .slice al nl capl, .bool b] 26 (0, 0)) := by
          rw [setRow_other _ _ _ _ hSg, HX9.out.heap S (Array.getElem?_eq_some_iff.1 hrS).1]
          exact hrS
        obtain ⟨x10, hx10⟩ : ∃ x, x9.setRow g (cur.toList.take ((p + 1) * 3) ++ CS ++ cur.toList.drop ((p + 1) * 3 + CS.length)).toArray = x := ⟨_, rfl⟩
        rw [hx10] at HUX HO9 hrS9 ⊢
        clear hx10 hCS hCL HC1 HC2 HCU HCX hcs hcc hmin HX9 c0 c1 c2 hgs hgf hgx
        have HFF : Hid (∀ i' j, i' < i + 1 → j < 3 → i' ≠ p → shiftF (conI cs vs K (.slice al nl capl) l b i) p i' j = if i' < p then conF cs vs i' j else conF cs vs (i' - 1) j) := Lib.hid fun i' j h1 h2 h3 => by
          unfold shiftF conI
          by_cases h4 : i' < p
          · rw [if_pos (by omega), if_neg (by omega), if_pos h4]
          · rw [if_neg (by omega), if_neg (by omega), if_neg h4]
        have HO10 := HO9
        obtain ⟨g', c', hv', _, hgs, _, hgf, hgx⟩ := own_get HO10.out (by omega)
        simp only [Value.slice.injEq, Option.some.injEq, Addr.mk.injEq, and_true, true_and] at hv'
        obtain ⟨rfl, rfl⟩ := hv'
        have k0 := hgx (p * 3 + 0) _ (flat_get _ _ _ _ _ (by omega) (by omega))
        have k1 := hgx (p * 3 + 1) _ (flat_get _ _ _ _ _ (by omega) (by omega))
        have k2 := hgx (p * 3 + 2) _ (flat_get _ _ _ _ _ (by omega) (by omega))
        rw [Nat.add_zero] at k0
        have c0 : x10.cell? ⟨S, 0, none⟩ = some (.int .i64 K) := cell_of_row _ _ _ _ _ _ hrS9
        have c1 : x10.cell? ⟨S, 1, none⟩ = some (.slice al nl capl) := cell_of_row _ _ _ _ _ _ hrS9
        have c2 : x10.cell? ⟨S, 2, none⟩ = some (.bool b) := cell_of_row _ _ _ _ _ _ hrS9
        have hww : W0.heap.size ≤ g := by rw [HB.out]; exact hgB
        have HZ := Lib.hid (RowC.ins HN.out HPS.out HP.out HK.out (b := b) p hpn HO10.out HFF.out)
        have hSg2 : (S = g) = False := by simp [hSg]
        have hgS2 : (g = S) = False := by simp; omega
        have hp3 : p < i + 1 := by omega
        have hp4 : (p : Int) < (i : Int) + 1 := by omega
        obtain rfl := HG.out
        clear hrS hrS9 HO9 HO10 hgx
        go_wp2
        go_ret2
        exact ⟨_, _, rfl, HZ.out, ((HUX.out.setCell (by exact hww) _).setCell (by exact hww) _).setCell (by exact hww) _⟩
      · obtain rfl : p = i := by omega
        have HFF : Hid (∀ i' j, i' < p + 1 → j < 3 → i' ≠ p → conI cs vs K (.slice al nl capl) l b p i' j = if i' < p then conF cs vs i' j else conF cs vs (i' - 1) j) := Lib.hid fun i' j h1 h2 h3 => by
          unfold conI
          rw [if_neg h3, if_pos (by omega)]
        have hb1 : (p : Int) + 1 ≤ (vd : Int) := by omega
        have HUA : Hid (Up W0 w1) := Lib.hid ((HU0.out.trans (HUw.out.alloc _)).grown HG1.out fun g hg => by rw [HB.out]; exact (HGB.out g hg).1)
        have hpv : p < vd := by omega
        clear hgs hgf hgx c0 c1 c2
        by_cases hvd : vd = p + 1
        · obtain rfl := hvd
          refine wp_region_mk 7 (fun _ _ _ _ => False) (by kernel_rfl) (by kernel_rfl) ?_
          simp only [List.take_succ_cons, List.take_zero, List.drop_succ_cons, List.drop_zero]
          iterate 7 (refine wpMk_quiet anti_post (by kernel_rfl) ?_; go_big_quiet_step (fail); refine wpQuiet_nil ?_)
          refine wpMk_nil ?_
          rintro x10 hx9 -
          have hrS9 : x10.heap[S]? = some (.cells #[.int .i64 K, .slice al nl capl, .bool b] 26 (0, 0)) := (hx9.heap S (Array.getElem?_eq_some_iff.1 hrS).1).trans hrS
          have HUX := Lib.hid (HUA.out.trans hx9)
          have HO9 := Lib.hid (own_up' HON.out hx9)
          clear hx9
          refine wpList_copyk_none rfl _ _ _ _ rfl 26 3 Tryd.underlying28 con_size _ _ _ _ _ _ rfl rfl (by first | rfl | simp | (exact Nat.min_eq_right (by omega))) ?_
          have HO10 := HO9
          obtain ⟨g', c', hv', _, hgs, _, hgf, hgx⟩ := own_get HO10.out (by omega)
          simp only [Value.slice.injEq, Option.some.injEq, Addr.mk.injEq, and_true, true_and] at hv'
          obtain ⟨rfl, rfl⟩ := hv'
          have k0 := hgx (p * 3 + 0) _ (flat_get _ _ _ _ _ (by omega) (by omega))
          have k1 := hgx (p * 3 + 1) _ (flat_get _ _ _ _ _ (by omega) (by omega))
          have k2 := hgx (p * 3 + 2) _ (flat_get _ _ _ _ _ (by omega) (by omega))
          rw [Nat.add_zero] at k0
          have c0 : x10.cell? ⟨S, 0, none⟩ = some (.int .i64 K) := cell_of_row _ _ _ _ _ _ hrS9
          have c1 : x10.cell? ⟨S, 1, none⟩ = some (.slice al nl capl) := cell_of_row _ _ _ _ _ _ hrS9
          have c2 : x10.cell? ⟨S, 2, none⟩ = some (.bool b) := cell_of_row _ _ _ _ _ _ hrS9
          have hww : W0.heap.size ≤ g := by rw [HB.out]; exact hgB
          have HZ := Lib.hid (RowC.ins HN.out HPS.out HP.out HK.out (b := b) p hpn HO10.out HFF.out)
          have hSg2 : (S = g) = False := by simp [hSg]
          have hgS2 : (g = S) = False := by simp; omega
          have hp3 : p < p + 1 := by omega
          have hp4 : (p : Int) < (p : Int) + 1 := by omega
          obtain rfl := HG.out
          clear hrS hrS9 HO9 HO10 hgx
          go_wp2
          go_ret2
          exact ⟨_, _, rfl, HZ.out, ((HUX.out.setCell (by exact hww) _).setCell (by exact hww) _).setCell (by exact hww) _⟩
        · have hb2 : p + 1 < vd := by omega
          have hb3 : (p : Int) + 1 < (vd : Int) := by omega
          refine wp_region_mk 7 (fun _ _ _ _ => False) (by kernel_rfl) (by kernel_rfl) ?_
          simp only [List.take_succ_cons, List.take_zero, List.drop_succ_cons, List.drop_zero]
          iterate 7 (refine wpMk_quiet anti_post (by kernel_rfl) ?_; go_big_quiet_step (fail); refine wpQuiet_nil ?_)
          refine wpMk_nil ?_
          rintro x10 hx9 -
          have hrS9 : x10.heap[S]? = some (.cells #[.int .i64 K, .slice al nl capl, .bool b] 26 (0, 0)) := (hx9.heap S (Array.getElem?_eq_some_iff.1 hrS).1).trans hrS
          have HUX := Lib.hid (HUA.out.trans hx9)
          have HO9 := Lib.hid (own_up' HON.out hx9)
          clear hx9
          refine wpList_copyk_none rfl _ _ _ _ rfl 26 3 Tryd.underlying28 con_size _ _ _ _ _ _ rfl rfl (by first | rfl | simp | (exact Nat.min_eq_right (by omega))) ?_
          have HO10 := HO9
          obtain ⟨g', c', hv', _, hgs, _, hgf, hgx⟩ := own_get HO10.out (by omega)
          simp only [Value.slice.injEq, Option.some.injEq, Addr.mk.injEq, and_true, true_and] at hv'
          obtain ⟨rfl, rfl⟩ := hv'
          have k0 := hgx (p * 3 + 0) _ (flat_get _ _ _ _ _ (by omega) (by omega))
          have k1 := hgx (p * 3 + 1) _ (flat_get _ _ _ _ _ (by omega) (by omega))
          have k2 := hgx (p * 3 + 2) _ (flat_get _ _ _ _ _ (by omega) (by omega))
          rw [Nat.add_zero] at k0
          have c0 : x10.cell? ⟨S, 0, none⟩ = some (.int .i64 K) := cell_of_row _ _ _ _ _ _ hrS9
          have c1 : x10.cell? ⟨S, 1, none⟩ = some (.slice al nl capl) := cell_of_row _ _ _ _ _ _ hrS9
          have c2 : x10.cell? ⟨S, 2, none⟩ = some (.bool b) := cell_of_row _ _ _ _ _ _ hrS9
          have hww : W0.heap.size ≤ g := by rw [HB.out]; exact hgB
          have HZ := Lib.hid (RowC.ins HN.out HPS.out HP.out HK.out (b := b) p hpn HO10.out HFF.out)
          have hSg2 : (S = g) = False := by simp [hSg]
          have hgS2 : (g = S) = False := by simp; omega
          have hp3 : p < p + 1 := by omega
          have hp4 : (p : Int) < (p : Int) + 1 := by omega
          obtain rfl := HG.out
          clear hrS hrS9 HO9 HO10 hgx
          go_wp2
          go_ret2
          exact ⟨_, _, rfl, HZ.out, ((HUX.out.setCell (by exact hww) _).setCell (by exact hww) _).setCell (by exact hww) _⟩
end Go.Proofs.YtahlecmlhdikjaaDoor
