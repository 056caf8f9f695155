/-
  Names of the program's side: the walk.
-/
import Derived.Test.YtpclbgaaoednnaaLinQn
namespace Go.Proofs.Ytpclbgaaoednnaa
open Go.ChangeShapes Go.WideShapes Go.ChangeAt Go.RowKit
set_option linter.unusedVariables false

def allK (ls : List (Int × List Mono)) (i : Nat) : List ByteArray := allN ((ls.take i).map (·.2))
theorem allK_succ {ls : List (Int × List Mono)} {i : Nat} (hi : i < ls.length) {K : Int} {l : List Mono} (h : ls.getD i (0, []) = (K, l)) : allK ls (i + 1) = allK ls i ++ l.map (·.1) := by
  unfold allK allN
  rw [take_snoc2 hi h, List.map_append, List.flatMap_append]; simp
theorem allN_len : ∀ (ls : List (List Mono)), (∀ l ∈ ls, l.length ≤ 1000) → (allN ls).length ≤ 1000 * ls.length
  | [], _ => by simp [allN]
  | l :: r, h => by
    have h1 := allN_len r fun x hx => h x (by simp [hx])
    have h3 := h l (by simp)
    unfold allN at h1 ⊢
    rw [List.flatMap_cons, List.length_append, List.length_map, List.length_cons]; omega
theorem strCells_snoc (l : List ByteArray) (s : ByteArray) : strCells l ++ flat (strF [s]) 1 1 = strCells (l ++ [s]) := by
  rw [str_flat]; simp [strCells]
theorem strCells_enc (l : List ByteArray) : strCells l = (l.map (·.data.toList)).map encStr := (Lib.map_encStr l).symm
theorem below_grow {B : Nat} {w0 w : World} (h : Below B w0 w) (hB : B ≤ w.heap.size) (os : Array Obj) : Below B w0 (Sort.grow w os) :=
  h.trans ⟨rfl, rfl, rfl, by simp, fun k hk => Sort.heap_grow_old w os (by omega)⟩

/-- What Sort and Compact leave of a row of strings of the call's own. -/
theorem tail_names (B : Nat) (w0 : World) (hB : w0.heap.size = B) (v : Value) (all : List ByteArray) (w : World) (hU : Up w0 w) (hown : w.ownsRow B 9 1 v all.length (strCells all)) (hn : all.length ≤ 100000) :
    Calls Try.prog 67 #[v] w fun e w1 => e = .returned (.tuple #[]) ∧ Calls Try.prog 68 #[v] w1 fun e w2 => ∃ v2, e = .returned v2 ∧ StrsAt w2 v2 (sortN all) ∧ Up w0 w2 := by
  by_cases h0 : all = []
  · subst h0
    obtain ⟨a, cap, rfl⟩ := own_slice hown
    refine (Try.slices_Sort_string_none a cap w).mono fun e w1 ⟨he, hw⟩ => ⟨he, ?_⟩
    rw [hw]
    refine (Try.slices_Compact_string_empty a cap w).mono fun e w2 ⟨he, hw⟩ => ?_
    rw [hw]
    have e0 : sortN [] = [] := by
      cases h : sortN [] with
      | nil => rfl
      | cons x r => exact absurd ((mem_sortN [] x).1 (by rw [h]; simp)) (by simp)
    refine ⟨_, he, ?_, hU⟩
    rw [e0]
    exact ⟨⟨a, cap, rfl, (fun _ => rfl), fun x hx hl => absurd hl (by simp)⟩, by decide⟩
  · have hlen : 0 < all.length := by
      cases all with
      | nil => exact absurd rfl h0
      | cons x r => simp
    have hne : v ≠ .slice none 0 0 := by
      rcases hown.2 with ⟨_, hz⟩ | ⟨g, cap, cur, rfl, _⟩
      · omega
      · intro h; cases h
    rw [strCells_enc] at hown
    obtain ⟨g, cap, rfl, hg1, hg2, hc1, hc2, hl, hH⟩ := Lib.holds_of_ownsRow hown hne
    obtain ⟨ss, hss⟩ : ∃ ss, all.map (·.data.toList) = ss := ⟨_, rfl⟩
    rw [hss] at hown hl hH
    have hsl : ss.length = all.length := hl
    obtain ⟨ts, hts⟩ : ∃ ts, (ss.mergeSort fun x y => decide (x ≤ y)) = ts := ⟨_, rfl⟩
    have htl : ts.length = ss.length := by rw [← hts, List.length_mergeSort]
    have hS := Try.slices_Sort_string g 0 cap ss w hH hg2 (by omega)
    rw [hsl, hts] at hS
    refine hS.mono fun e w1 ⟨he, n, os, hw⟩ => ⟨he, ?_⟩
    obtain ⟨cur, hcur, hcs⟩ : ∃ cur, w.heap[g]? = some (.cells cur 9 (0, 0)) ∧ cur.size = cap * 1 := by
      rcases hown.2 with ⟨hv, _⟩ | ⟨g', cap', cur, hv, _, hg, _, _, hs, _⟩
      · cases hv
      · simp only [Value.slice.injEq, Option.some.injEq, Addr.mk.injEq] at hv
        obtain ⟨⟨rfl, _⟩, _, rfl⟩ := hv
        exact ⟨cur, hg, hs⟩
    have hown1 : w1.ownsRow B 9 1 (.slice (some ⟨g, 0, none⟩) ts.length cap) ts.length (ts.map encStr) := by
      rw [hw, htl]
      exact ownsRow_sorted htl hg1 hcur (by omega) hc2 hcs
    have hU1 : Below B w0 w1 := by
      rw [hw]
      exact below_grow (Lib.below_putRow (hB ▸ hU) hg1) (by simp; omega) os
    have hH1 : Sort.Holds encStr w1 g 0 ts.toArray := by
      obtain ⟨g', cap', hv', _, _, _, _, _, hH1⟩ := Lib.holds_of_ownsRow hown1 (by intro h; cases h)
      simp only [Value.slice.injEq, Option.some.injEq, Addr.mk.injEq] at hv'
      obtain ⟨⟨rfl, _⟩, _, rfl⟩ := hv'
      exact hH1
    have hC := Try.slices_Compact_string g 0 cap ts w1 hH1 (by omega) (by omega)
    rw [show ts.length = all.length by omega] at hC
    refine hC.mono fun e w2 ⟨he, q, hw2⟩ => ?_
    have hcl : (Lib.compact ts).length ≤ ts.length := by
      unfold Lib.compact Lib.compactUpTo
      rw [List.length_map]
      exact Nat.le_trans (List.length_filter_le _ _) (by simp)
    have hown2 := Lib.ownsRow_putRow (q := q) (ys := Lib.compact ts ++ List.replicate (all.length - (Lib.compact ts).length) []) hown1 (by simp; omega) (k := (Lib.compact ts).length) hcl
    rw [← hw2, List.take_left] at hown2
    refine ⟨_, he, ?_, ?_⟩
    · have e1 : (Lib.compact ts).map encStr = strCells (sortN all) := by
        rw [strCells_enc]
        unfold sortN
        rw [hss, hts, List.map_map, List.map_map]
        refine List.map_congr_left fun x _ => ?_
        simp [mkS, Function.comp]
      have e2 : (Lib.compact ts).length = (sortN all).length := by unfold sortN; rw [hss, hts, List.length_map]
      rw [e1] at hown2
      exact SlAt.own_strs hown2 e2 (by omega)
    · rw [hw2]
      have := Lib.below_putRow (enc := encStr) (q := q) (d := (Lib.compact ts ++ List.replicate (all.length - (Lib.compact ts).length) []).toArray) hU1 hg1
      unfold Up; rw [hB]; exact this

set_option maxHeartbeats 8000000 in
theorem lin_Names (v : Value) (ls : List (Int × List Mono)) (w : World) (hv : LinsAt w v ls) (hn : ls.length ≤ 10) (hl : ∀ x ∈ ls, x.2.length ≤ 1000) :
    Calls Try.prog 39 #[v] w fun e w' => ∃ v2, e = .returned v2 ∧ StrsAt w' v2 (sortN (allN (ls.map (·.2)))) ∧ Up w w' := by
  obtain ⟨i0, hi0, hz0, hz1, hz2⟩ := info_parts str_info
  obtain ⟨⟨a, cap, rfl⟩, hmax⟩ := hv.slice
  obtain ⟨n, hnn⟩ : ∃ n, ls.length = n := ⟨_, rfl⟩
  rw [hnn] at hv hn hmax ⊢
  have HV := Lib.hid hv
  have HN := Lib.hid hnn
  have HL := Lib.hid hl
  obtain ⟨R, hR⟩ : ∃ R, allN (ls.map (·.2)) = R := ⟨_, rfl⟩
  rw [hR]
  have HR := Lib.hid hR
  have hRn : R.length ≤ 10000 := by
    have := allN_len (ls.map (·.2)) (fun x hx => by
      obtain ⟨y, hy, rfl⟩ := List.mem_map.1 hx
      exact hl y hy)
    rw [hR, List.length_map, hnn] at this
    omega
  have HRN := Lib.hid hRn
  have hnI : (n : Int) ≤ 10 := by omega
  clear hv hnn hl hR hRn
  obtain ⟨B, hB⟩ : ∃ B, w.heap.size = B := ⟨_, rfl⟩
  have HB := Lib.hid hB
  have hBw : B ≤ w.heap.size := by omega
  clear hB
  go_enter Try.func39, Try.ntmps39
  go_wp2
  go_loopw [3, 10] (fun v iv wr => ∃ i : Nat, i ≤ n ∧ iv = .int .i64 i ∧ NamesOwn wr B v (allK ls i) ∧ Up w wr) (fun _ iv _ => n - (intOf iv).toNat)
  case atStart => exact ⟨0, by omega, rfl, World.ownsRow_nil _ _ _ _, Up.refl _⟩
  case round =>
    rename_i wr
    obtain ⟨i, hi, rfl, hO, hU⟩ := hrel
    obtain ⟨wo, rfl⟩ : ∃ wo : World, wo = wr := ⟨_, rfl⟩
    have HO := Lib.hid hO
    have HU := Lib.hid hU
    clear hO
    by_cases hlt : i < n
    · have hlt2 : (i : Int) < (n : Int) := by omega
      have hi0' : (0 : Int) ≤ (i : Int) := by omega
      obtain ⟨bl, off, lv, K, l, rfl, p1, p2, p3, p4, p5⟩ := HV.out.elem (Up.refl w) i (by rw [HN.out]; exact hlt) HN.out rfl
      have hlen : l.length ≤ 1000 := by
        have := HL.out (ls.getD i (0, [])) (by
          rw [List.getD_eq_getElem?_getD, List.getElem?_eq_getElem (by rw [HN.out]; exact hlt)]; exact List.getElem_mem _)
        rw [p2] at this; exact this
      have HK := Lib.hid (allK_succ (by rw [HN.out]; exact hlt) p2)
      have HNL : Hid ((allK ls i).length ≤ 10000) := Lib.hid (by
        have := allN_len ((ls.take i).map (·.2)) (fun x hx => by
          obtain ⟨y, hy, rfl⟩ := List.mem_map.1 hx
          exact HL.out y (List.mem_of_mem_take hy))
        have h2 : ((ls.take i).map (·.2)).length ≤ i := by rw [List.length_map]; exact List.length_take_le _ _
        have h3 : (allK ls i).length ≤ 1000 * ((ls.take i).map (·.2)).length := this
        omega)
      obtain ⟨ns, hns⟩ : ∃ ns, allK ls i = ns := ⟨_, rfl⟩
      rw [hns] at HK HNL HO
      obtain ⟨al, cl, rfl⟩ := p5.slice
      obtain ⟨m, hm⟩ : ∃ m, l.length = m := ⟨_, rfl⟩
      rw [hm] at p4 hlen
      have hp5 := p5
      rw [hm] at hp5
      have HM := Lib.hid hp5
      have HLM := Lib.hid hm
      have hmI : (m : Int) ≤ 1000 := by omega
      clear p2 p5 hp5 hm hns hU
      have hbl : bl < wo.heap.size := by have := HU.out.size; omega
      have c0 := (HU.out.cell _ _ p1).trans p3
      have c1 := (HU.out.cell _ _ p1).trans p4
      go_wp2
      clear c0 c1
      obtain ⟨W1, hW1⟩ : ∃ W1, wo.alloc (.cells #[.int .i64 K, .slice al m cl] 25) = W1 := ⟨_, rfl⟩
      have hU1 : Up wo W1 := hW1 ▸ (Up.refl wo).alloc _
      rw [hW1]
      have HU1 := Lib.hid hU1
      have HO1 : Hid (NamesOwn W1 B u3 ns) := Lib.hid (own_up HO.out hU1)
      have HUW1 := Lib.hid (HU.out.trans hU1)
      clear hW1 p3 p4 hU1
      go_loopw [3, 17] (fun v kv wr => ∃ k : Nat, k ≤ m ∧ kv = .int .i64 k ∧ NamesOwn wr B v (ns ++ (l.take k).map (·.1)) ∧ Up w wr) (fun _ kv _ => m - (intOf kv).toNat)
      case atStart => exact ⟨0, by omega, rfl, by simpa using HO1.out, HUW1.out⟩
      case round =>
        rename_i wr
        obtain ⟨k, hk, rfl, hO, hU⟩ := hrel
        have HO2 := Lib.hid hO
        have HUW2 := Lib.hid hU
        clear hO
        by_cases hlk : k < m
        · have hlk2 : (k : Int) < (m : Int) := by omega
          have hk0 : (0 : Int) ≤ (k : Int) := by omega
          obtain ⟨bl', off', s, b, rfl, q1, q2, q3, q4⟩ := HM.out.elem hU k (by rw [HLM.out]; exact hlk) HLM.out rfl
          have HT : Hid (ns ++ (l.take (k + 1)).map (·.1) = (ns ++ (l.take k).map (·.1)) ++ [s]) := Lib.hid (by
            rw [take_snoc2 (by rw [HLM.out]; exact hlk) q2, List.map_append, List.append_assoc]; rfl)
          obtain ⟨cu, hcu⟩ : ∃ cu, ns ++ (l.take k).map (·.1) = cu := ⟨_, rfl⟩
          have hcul : cu.length ≤ 20000 := by
            rw [← hcu, List.length_append, List.length_map]
            have h2 : (l.take k).length ≤ k := List.length_take_le _ _
            have := HNL.out
            omega
          rw [hcu] at HT HO2
          have HCU := Lib.hid hcu
          have HCL := Lib.hid hcul
          have hbr' : bl' < wr.heap.size := by have := hU.size; omega
          obtain ⟨an, cn, rfl⟩ := own_slice HO2.out
          obtain ⟨mc, hmc⟩ : ∃ mc, cu.length = mc := ⟨_, rfl⟩
          have HMC := Lib.hid hmc
          have hsl := str_sl (wr.alloc (.cells #[.string s, .int .i64 b] 59)) s 9
          rw [size_alloc] at hsl
          have HSL := Lib.hid hsl
          have HOW : Hid (wr.ownsRow B 9 1 (.slice an mc cn) mc (strCells cu)) := Lib.hid (by rw [← hmc]; exact HO2.out)
          have hmI2 : (mc : Int) ≤ 20000 := by omega
          have hBr : B ≤ wr.heap.size := by have := HUW2.out.size; omega
          rw [hmc] at HCL
          try rw [hmc]
          clear hU q2 hcu hcul hmc hsl HO2
          go_wp2_with (at_builtin; refine wpList_append_sl _ rfl (.tmp 21) (.tmp 24) 53 rfl B 9 i0 _ 1 16 Try.underlying53 hi0 hz0 hz1 hz2 rfl (by decide) (.slice an mc cn) mc _ rfl ((HOW.out.alloc _).alloc _) (.slice (some ⟨wr.heap.size + 1, 0, none⟩) 1 1) 1 _ rfl HSL.out (str_one s) (by unfold maxLen; omega) (by omega) (by rw [size_alloc, size_alloc]; omega) ?_; intro v1 w1 hown1 hg1 hat1 hnil1; have HO1 := Lib.hid hown1; have HG1 := Lib.hid hg1; clear hown1 hg1 hat1 hnil1)
          have HOA : Hid (NamesOwn w1 B v1 (cu ++ [s])) := Lib.hid (by
            have h := HO1.out
            rw [strCells_snoc] at h
            unfold NamesOwn
            rw [List.length_append, HMC.out]; exact h)
          have HUA : Hid (Up w w1) := Lib.hid (Up.grown ((HUW2.out.alloc _).alloc _) HG1.out (fun g hg => by rw [HB.out]; exact (HOW.out.lt g hg).1))
          go_wp2
          go_roundw
          case rel => exact ⟨k + 1, by omega, by go_num, by rw [HT.out]; exact HOA.out, HUA.out⟩
          case measure => simp [intOf]; omega
        · have hlk2 : (m : Int) ≤ (k : Int) := by omega
          have HE : Hid (ns ++ (l.take k).map (·.1) = allK ls (i + 1)) := Lib.hid (by
            rw [HK.out, List.take_of_length_le (by rw [HLM.out]; omega)])
          clear hU
          go_wp2
          go_roundw
          case rel => exact ⟨i + 1, by omega, by go_num, by rw [← HE.out]; exact HO2.out, HUW2.out⟩
          case measure => simp [intOf]; omega
    · have hlt2 : (n : Int) ≤ (i : Int) := by omega
      have HE : Hid (allK ls i = R) := Lib.hid (by
        rw [← HR.out]
        unfold allK
        rw [List.take_of_length_le (by rw [HN.out]; omega)])
      clear hU
      rw [HE.out] at HO
      have htl := tail_names B w HB.out _ R wo HU.out HO.out (by have := HRN.out; omega)
      have HTL := Lib.hid htl
      clear htl
      go_wp2_with fail
      refine HTL.out.mono ?_
      rintro e x ⟨rfl, hc⟩
      have HC := Lib.hid hc
      clear hc
      go_wp2_with fail
      refine HC.out.mono ?_
      rintro e x2 ⟨v2, rfl, h1, h2⟩
      go_wp2
      go_ret
      exact ⟨_, rfl, h1, h2⟩
end Go.Proofs.Ytpclbgaaoednnaa
