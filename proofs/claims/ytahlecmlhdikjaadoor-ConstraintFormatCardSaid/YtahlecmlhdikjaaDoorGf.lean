/-
  Joined by a program: LinSr, CoD, Mk, MkS.
-/
import Derived.Test.YtahlecmlhdikjaaDoorGc
import Derived.Deep.RegionLaw
import Derived.Test.YtahlecmlhdikjaaDoorGe
import Derived.Test.YtahlecmlhdikjaaDoorGa
import Derived.StillTail
import Derived.Deep.QuietTactic

section
namespace Go.Proofs.YtahlecmlhdikjaaDoor
open Go.ChangeShapes Go.WideShapes Go.ChangeAt Go.RowKit
set_option linter.unusedVariables false
set_option linter.unusedSimpArgs false

theorem undrew {w w1 : World} {row : Option Nat} (h : w.drew.grownBy w1 row) : w.grownBy w1 row := ⟨h.os, h.tape, h.output, h.size, h.block⟩

set_option maxHeartbeats 4000000 in
set_option maxRecDepth 100000 in
theorem r05_Scale (K y : Int) (v : Value) (l : List Mono) (w : World) (hv : MonosAt w v l) (hK : In64 K) (hl : Rng l) (hy : In64 y) (hlen : l.length ≤ 1000) :
    Calls Tryd.prog 58 #[.agg #[.int .i64 K, v], .int .i64 y] w fun e w' => LinErr e w' (scaleF K l y) ∧ Up w w' := by
  obtain ⟨i0, hi0, hz0, hz1, hz2⟩ := info_parts mono_info
  obtain ⟨a, cap, rfl⟩ := hv.slice
  obtain ⟨n, hn⟩ : ∃ n, l.length = n := ⟨_, rfl⟩
  rw [hn] at hv hlen ⊢
  have hnI : (n : Int) ≤ 1000 := by omega
  have HV := Lib.hid hv
  have HN := Lib.hid hn
  have HL := Lib.hid hl
  have HY := Lib.hid hy
  obtain ⟨q, hq⟩ : ∃ q, okL l = q := ⟨_, rfl⟩
  have HVA : Hid (∀ (K : Int) (w : World) (hv : MonosAt w (.slice a n cap) l), Calls Tryd.prog 65 #[.agg #[.int .i64 K, .slice a n cap]] w fun e w' => e = .returned (.int .i64 (errOf q)) ∧ Up w w') := Lib.hid fun K w hv => by
    have := r05_Validate K (.slice a n cap) l w hv
    rw [hq] at this
    exact this
  have HR : Hid (scaleF K l y = if q then (if y = 0 then (0, [], 0) else if fitB (K * y) && allFit y l then (K * y, outL y l, 0) else (0, [], 3)) else (0, [], 1)) := Lib.hid (by unfold scaleF; rw [hq])
  obtain ⟨r, hr⟩ : ∃ r, scaleF K l y = r := ⟨_, rfl⟩
  rw [hr] at HR ⊢
  obtain ⟨fK, hfK⟩ : ∃ f, fitB (K * y) = f := ⟨_, rfl⟩
  rw [hfK] at HR
  obtain ⟨Ko, hKo⟩ : ∃ x, (mulR K y).1 = x := ⟨_, rfl⟩
  have HTK : Hid (∀ w, Calls Tryd.prog 87 #[.int .i64 K, .int .i64 y] w fun e w' => e = .returned (.tuple #[.int .i64 Ko, .bool fK]) ∧ w' = w) := Lib.hid fun w => by
    have := base_Times K y hK hy w
    rw [mulR_snd, hfK, hKo] at this
    exact this
  have HKO : Hid (fK = true → Ko = K * y) := Lib.hid fun h => by rw [← hKo]; unfold mulR; rw [hfK, h]; rfl
  clear hv hn hl hq hr hfK hKo hK hy
  go_enter Tryd.func58, Tryd.ntmps58
  go_wp2_with fail
  refine (HVA.out _ _ (HV.out.up (((Up.refl w).alloc _).alloc _))).mono ?_
  rintro e x1 ⟨rfl, hx1⟩
  have hs := hx1.size
  rw [size_alloc, size_alloc] at hs
  have b0 : x1.cell? ⟨w.heap.size, 0, none⟩ = some (.int .i64 K) := (hx1.cell _ _ (by rw [size_alloc, size_alloc]; omega)).trans (by go_simp)
  have b1 : x1.cell? ⟨w.heap.size, 1, none⟩ = some (.slice a n cap) := (hx1.cell _ _ (by rw [size_alloc, size_alloc]; omega)).trans (by go_simp)
  have c0 : x1.cell? ⟨w.heap.size + 1, 0, none⟩ = some (.int .i64 0) := (hx1.cell _ _ (by rw [size_alloc, size_alloc]; omega)).trans (by go_simp)
  have c1 : x1.cell? ⟨w.heap.size + 1, 1, none⟩ = some (.slice none 0 0) := (hx1.cell _ _ (by rw [size_alloc, size_alloc]; omega)).trans (by go_simp)
  have cf : ∀ o, x1.frozen? ⟨w.heap.size + 1, o, none⟩ = false := fun o => (hx1.frozen _ _ (by rw [size_alloc, size_alloc]; omega)).trans (by go_simp)
  have HU1 := Lib.hid ((((Up.refl w).alloc (.cells #[.int .i64 K, .slice a n cap] 24)).alloc (.cells #[.int .i64 0, .slice none 0 0] 24)).trans hx1)
  clear hx1
  have q0 : w.heap.size < x1.heap.size := by omega
  have q1 : w.heap.size + 1 < x1.heap.size := by omega
  have hset : ∀ (x : World) (v : Value) (o : Nat), Up w x → Up w (x.setCell ⟨w.heap.size + 1, o, none⟩ v) := fun x v o u => u.setCell (by show w.heap.size ≤ w.heap.size + 1; omega) v
  have HSET := Lib.hid hset
  clear hset
  cases q
  · rw [show errOf false = 1 from rfl]
    go_wp2
    refine bodyPost_ret (v := .tuple #[.agg #[.int .i64 0, .slice none 0 0], .int .i64 1]) (by simp [results, Tryd.results58, go_sem, c0, c1]) rfl ?_
    rw [HR.out]
    exact ⟨⟨_, rfl, monos_nil _, cap_nil⟩, by repeat (first | exact HU1.out | refine HSET.out _ _ _ ?_)⟩
  rw [show errOf true = 0 from rfl]
  by_cases hy0 : y = 0
  · subst hy0
    go_wp2
    refine bodyPost_ret (v := .tuple #[.agg #[.int .i64 0, .slice none 0 0], .int .i64 0]) (by simp [results, Tryd.results58, go_sem, c0, c1]) rfl ?_
    rw [HR.out]
    exact ⟨⟨_, rfl, monos_nil _, cap_nil⟩, by repeat (first | exact HU1.out | refine HSET.out _ _ _ ?_)⟩
  have hy1 : (y == 0) = false := by simpa using hy0
  have HRR : Hid (r = if fK && allFit y l then (K * y, outL y l, 0) else (0, [], 3)) := Lib.hid (by
    rw [HR.out, if_pos (by rfl), if_neg hy0])
  clear HR
  go_wp2_with fail
  refine (HTK.out _).mono ?_
  rintro e x2 ⟨rfl, hx2⟩
  replace hx2 := hx2.symm
  subst hx2
  cases fK
  · go_wp2
    refine bodyPost_ret (v := .tuple #[.agg #[.int .i64 0, .slice none 0 0], .int .i64 3]) (by simp [results, Tryd.results58, go_sem, c0, c1]) rfl ?_
    have hr2 : r = (0, [], 3) := by rw [HRR.out]; simp
    rw [hr2]
    exact ⟨⟨_, rfl, monos_nil _, cap_nil⟩, by repeat (first | exact HU1.out | refine HSET.out _ _ _ ?_)⟩
  have HRS : Hid (r = if allFit y l then (K * y, outL y l, 0) else (0, [], 3)) := Lib.hid (by rw [HRR.out, Bool.true_and])
  have HKO2 : Hid (Ko = K * y) := Lib.hid (HKO.out rfl)
  clear HRR HKO
  go_wp2
  obtain ⟨O, hO⟩ : ∃ O, x1.heap.size = O := ⟨_, rfl⟩
  obtain ⟨W3, hW3⟩ : ∃ W, x1.alloc (.cells #[.int .i64 Ko, .slice none 0 0] 24) = W := ⟨_, rfl⟩
  have hO3 : OutAt W3 (O + 1) O Ko [] 0 none 0 := by
    refine ⟨rfl, ?_, World.ownsRow_nil _ _ _ _, by omega, ?_⟩
    · rw [← hW3, ← hO]; exact heap_alloc_new x1 _
    · rw [← hW3, size_alloc, hO]; omega
  have HU3 : Hid (Up w W3) := Lib.hid (hW3 ▸ HU1.out.alloc _)
  have e0 : W3.cell? ⟨w.heap.size + 1, 0, none⟩ = some (.int .i64 0) := by
    rw [← hW3]; exact ((((Up.refl x1).alloc _).cell _ _ q1).trans c0)
  have eb : W3.cell? ⟨w.heap.size, 1, none⟩ = some (.slice a n cap) := by
    rw [← hW3]; exact ((((Up.refl x1).alloc _).cell _ _ q0).trans b1)
  have e1 : W3.cell? ⟨w.heap.size + 1, 1, none⟩ = some (.slice none 0 0) := by
    rw [← hW3]; exact ((((Up.refl x1).alloc _).cell _ _ q1).trans c1)
  have ef : ∀ o, W3.frozen? ⟨w.heap.size + 1, o, none⟩ = false := fun o => by
    rw [← hW3]; exact ((((Up.refl x1).alloc _).frozen _ _ q1).trans (cf o))
  have hs3 : W3.heap.size = O + 1 := by rw [← hW3, size_alloc, hO]
  rw [hO] at q0 q1 hs
  rw [hW3]
  try rw [hO]
  have HO3 := Lib.hid hO3
  have HE0 := Lib.hid e0
  have HE1 := Lib.hid e1
  have HEB := Lib.hid eb
  have HEF := Lib.hid ef
  clear hO hW3 b0 b1 c0 c1 cf hO3 e0 e1 eb ef HU1 HTK
  have hcf : ∀ wr, UpRow (O + 1) O W3 wr → wr.cell? ⟨w.heap.size + 1, 0, none⟩ = some (.int .i64 0) ∧ wr.cell? ⟨w.heap.size + 1, 1, none⟩ = some (.slice none 0 0) ∧ ∀ o, wr.frozen? ⟨w.heap.size + 1, o, none⟩ = false := fun wr hr => by
    refine ⟨(hr.cell _ _ (by omega) (by omega)).trans HE0.out, (hr.cell _ _ (by omega) (by omega)).trans HE1.out, fun o => ?_⟩
    have h1 := hr.block (w.heap.size + 1) (by omega) (by omega)
    have h2 := HEF.out o
    unfold World.frozen? at h2 ⊢
    rw [h1]; exact h2
  have HCF := Lib.hid hcf
  clear hcf
  go_loopw [9] (fun i wr => ∃ (k : Nat) (va : Option Addr) (vc : Nat), k ≤ n ∧ i = .int .i64 k ∧ allFit y (l.take k) = true ∧ OutAt wr (O + 1) O Ko (outL y (l.take k)) k va vc ∧ UpRow (O + 1) O W3 wr) (fun i _ => n - (intOf i).toNat)
  case atStart => exact ⟨0, none, 0, by omega, rfl, by simp [allFit], HO3.out, UpRow.refl _ _ _⟩
  case round =>
    rename_i wr
    obtain ⟨k, va, vc, hk, rfl, hfk, hOut, hRow⟩ := hrel
    have hU := UpRow.up HU3.out (by omega : w.heap.size ≤ O) (by omega) hRow
    obtain ⟨o0, o1, of, ol⟩ := hOut.cells
    have HOut := Lib.hid hOut
    have HRow := Lib.hid hRow
    have HFK := Lib.hid hfk
    have bb : wr.cell? ⟨w.heap.size, 1, none⟩ = some (.slice a n cap) := (hRow.cell _ _ (by omega) (by omega)).trans HEB.out
    clear hOut hRow hfk
    by_cases hlt : k < n
    · have hlt2 : (k : Int) < (n : Int) := by omega
      have hk0 : (0 : Int) ≤ (k : Int) := by omega
      obtain ⟨bl, off, s, b, rfl, p1, p2, p3, p4⟩ := HV.out.elem hU k (by rw [HN.out]; exact hlt) HN.out rfl
      have hrb : In64 b := by
        have := HL.out k (by rw [HN.out]; exact hlt)
        rw [p2] at this; exact this
      have htk := take_snoc (by rw [HN.out]; exact hlt) p2
      have HT := Lib.hid htk
      obtain ⟨c, hc⟩ : ∃ c, (mulR b y).1 = c := ⟨_, rfl⟩
      obtain ⟨g, hg⟩ : ∃ g, fitB (b * y) = g := ⟨_, rfl⟩
      have HTB : Hid (∀ w, Calls Tryd.prog 87 #[.int .i64 b, .int .i64 y] w fun e w' => e = .returned (.tuple #[.int .i64 c, .bool g]) ∧ w' = w) := Lib.hid fun w => by
        have := base_Times b y hrb HY.out w
        rw [mulR_snd, hg, hc] at this
        exact this
      have HF2 : Hid (allFit y (l.take (k + 1)) = g) := Lib.hid (by
        rw [HT.out, allFit_snoc, HFK.out, hg]; rfl)
      have HO2 : Hid (outL y (l.take (k + 1)) = outL y (l.take k) ++ [(s, c)]) := Lib.hid (by
        rw [HT.out, outL_snoc, hc])
      have HFA : Hid (g = false → allFit y l = false) := Lib.hid (fun h => by
        have hm : l.getD k m0 ∈ l := by
          have hkl : k < l.length := by rw [HN.out]; exact hlt
          rw [List.getD_eq_getElem?_getD, List.getElem?_eq_getElem hkl]
          exact List.getElem_mem hkl
        cases hx : allFit y l
        · rfl
        · have := List.all_eq_true.1 hx _ hm
          rw [p2] at this
          have h2 : fitB (b * y) = true := this
          rw [hg, h] at h2; cases h2)
      obtain ⟨b0, b1⟩ := hrb
      have HP2 := Lib.hid p2
      clear p2 htk hc hg HFK HT
      have q5 : bl < wr.heap.size := by have := hU.size; omega
      have q6 : O < wr.heap.size := ol
      have q9 : w.heap.size < wr.heap.size := by omega
      have hkm : (k : Int) ≤ 1000 := by omega
      go_wp2_with fail
      refine (HTB.out _).mono ?_
      rintro e x2 ⟨rfl, hx2⟩
      replace hx2 := hx2.symm
      subst hx2
      have HKEY := Lib.hid (HOut.out.key s c)
      cases g
      · obtain ⟨c0, c1, cf⟩ := HCF.out _ HRow.out
        have hr2 : Hid (r = (0, [], 3)) := Lib.hid (by rw [HRS.out, HFA.out rfl]; rfl)
        have HUW := Lib.hid hU
        clear hU
        go_wp2
        refine bodyPost_ret (v := .tuple #[.agg #[.int .i64 0, .slice none 0 0], .int .i64 3]) (by simp [results, Tryd.results58, go_sem, c0, c1]) rfl ?_
        rw [hr2.out]
        exact ⟨⟨_, rfl, monos_nil _, cap_nil⟩, by repeat (first | exact HUW.out | refine HSET.out _ _ _ ?_)⟩
      · go_wp2_with fail
        have HSL := Lib.hid (SlAt.up (mono_sl wr s c) ((Up.refl _).drew))
        go_region_law (refine wp_append_sl _ _ _ 22 rfl (O + 1) 56 i0 _ 2 24 Tryd.underlying22 hi0 hz0 hz1 hz2 rfl (by decide) (.slice va k vc) k _ rfl (HOut.out.2.2.1.alloc _).drew (.slice (some ⟨wr.heap.size, 0, none⟩) 1 1) 1 _ rfl HSL.out (mono_one s c) (by unfold maxLen; omega) (by omega) (by have := HOut.out.2.2.2.2; simp; omega) ?_; intro v1 w1 hown1 hg1 hat1 hnil1; obtain ⟨vb, vd, rfl⟩ := own_slice hown1; obtain ⟨d2, d3, HD2, HD3, HD4⟩ := HKEY.out w1 (undrew hg1); have HO1 := Lib.hid hown1; clear hown1 hg1 hat1 hnil1)
        all_goals
          obtain ⟨hf1, hf2⟩ := HOut.out.done s c HD2.out HD3.out HD4.out vb vd HO1.out
          go_wp2
          go_roundw
          case rel => exact ⟨k + 1, vb, vd, by omega, by go_num, HF2.out, by rw [HO2.out]; exact hf1, HRow.out.trans hf2⟩
          case measure => simp [intOf]; omega
    · have hlt2 : (n : Int) ≤ (k : Int) := by omega
      have hkn : k = n := by omega
      subst hkn
      have hta : l.take k = l := List.take_of_length_le (by rw [HN.out]; omega)
      obtain ⟨c0, c1, cf⟩ := HCF.out _ HRow.out
      have HUW := Lib.hid hU
      have hr2 : Hid (r = (Ko, outL y l, 0)) := Lib.hid (by
        have := HFK.out
        rw [hta] at this
        rw [HRS.out, this, HKO2.out]; rfl)
      have HTA := Lib.hid hta
      clear hU hta
      go_wp2
      refine bodyPost_ret (v := .tuple #[.agg #[.int .i64 Ko, .slice va k vc], .int .i64 0]) (by simp [results, Tryd.results58, go_sem, c0, c1]) rfl ?_
      rw [hr2.out]
      refine ⟨⟨.slice va k vc, rfl, ?_, own_cap HOut.out.2.2.1⟩, by repeat (first | exact HUW.out | refine HSET.out _ _ _ ?_)⟩
      have hoo := HOut.out
      rw [HTA.out] at hoo
      have hle : k = (outL y l).length := hoo.1
      show SlAt _ _ (outL y l).length 2 _
      rw [← hle]
      refine SlAt.of_own (base := O + 1) (e := 56) (xs := monoCells (outL y l)) ?_ (by omega) (fun i j hi hj => monoCells_get _ i j (by omega) hj)
      repeat (first | exact hoo.2.2.1 | refine ownsRow_setCell_below ?_ (by show w.heap.size + 1 < O + 1; omega) _)
end Go.Proofs.YtahlecmlhdikjaaDoor
end

section
namespace Go.Proofs.YtahlecmlhdikjaaDoor
open Go.ChangeShapes Go.WideShapes Go.ChangeAt Go.RowKit
set_option linter.unusedVariables false
set_option linter.unusedSimpArgs false
set_option maxRecDepth 100000

theorem divL_snoc (l : List Mono) (m : Mono) (g : Int) : divL (l ++ [m]) g = divL l g ++ [(m.1, m.2 / g)] := by simp [divL]
theorem OutAt.setK {w : World} {h O n : Nat} {K K' : Int} {l : List Mono} {a : Option Addr} {cap : Nat} (x : OutAt w h O K l n a cap) : OutAt (w.setCell ⟨O, 0, none⟩ (.int .i64 K')) h O K' l n a cap := by
  obtain ⟨h1, h2, h3, h4, h5⟩ := x
  refine ⟨h1, ?_, ownsRow_setCell_below h3 h4 _, h4, by rw [set_size]; exact h5⟩
  simp [World.setCell, Array.getElem?_modify, h2]
def FormR (w : World) (e : Ending) (w' : World) (r : Int × List Mono) : Prop := (∃ v, e = .returned (.agg #[.int .i64 r.1, v]) ∧ MonosAt w' v r.2 ∧ CapOk v ∧ FreshV w v) ∧ Up w w'

set_option maxHeartbeats 8000000 in
theorem con_divided (K : Int) (v : Value) (l : List Mono) (g : Nat) (w : World) (hv : MonosAt w v l) (hK : In64 K) (hl : Rng l) (hlen : l.length ≤ 1000) (hg : 0 < g) (hgl : g ≤ 9223372036854775808) (hd : ∀ m ∈ l, (g : Int) ∣ m.2 ∧ m.2 ≠ 0) :
    Calls Tryd.prog 38 #[.agg #[.int .i64 K, v], .int .u64 g] w fun e w' => FormR w e w' (K / (g : Int), divL l g) := by
  obtain ⟨i0, hi0, hz0, hz1, hz2⟩ := info_parts mono_info
  obtain ⟨a, cap, rfl⟩ := hv.slice
  obtain ⟨n, hn⟩ : ∃ n, l.length = n := ⟨_, rfl⟩
  rw [hn] at hv hlen ⊢
  have hnI : (n : Int) ≤ 1000 := by omega
  have HV := Lib.hid hv
  have HN := Lib.hid hn
  have HL := Lib.hid hl
  have HD := Lib.hid hd
  have HKI := Lib.hid hK
  obtain ⟨k0, k1⟩ := hK
  obtain ⟨G, hG⟩ : ∃ G : Int, (g : Int) = G := ⟨_, rfl⟩
  rw [hG] at hd ⊢
  have HD := Lib.hid hd
  have G0 : 0 < G := by omega
  have G1 : G ≤ 9223372036854775808 := by omega
  obtain ⟨Ko, hKo⟩ : ∃ x, K / G = x := ⟨_, rfl⟩
  rw [hKo]
  have c0 : ((w.alloc (.cells #[.int .i64 K, .slice a n cap] 24)).alloc (.cells #[.int .i64 0, .slice none 0 0] 24)).cell? ⟨w.heap.size + 1, 0, none⟩ = some (.int .i64 0) := by go_simp
  have c1 : ((w.alloc (.cells #[.int .i64 K, .slice a n cap] 24)).alloc (.cells #[.int .i64 0, .slice none 0 0] 24)).cell? ⟨w.heap.size + 1, 1, none⟩ = some (.slice none 0 0) := by go_simp
  have cf : ∀ o, ((w.alloc (.cells #[.int .i64 K, .slice a n cap] 24)).alloc (.cells #[.int .i64 0, .slice none 0 0] 24)).frozen? ⟨w.heap.size + 1, o, none⟩ = false := fun o => by go_simp
  have hset : ∀ (x : World) (v : Value) (o : Nat), Up w x → Up w (x.setCell ⟨w.heap.size + 1, o, none⟩ v) := fun x v o u => u.setCell (by show w.heap.size ≤ w.heap.size + 1; omega) v
  have HSET := Lib.hid hset
  obtain ⟨y, hy⟩ : ∃ x, (w.alloc (.cells #[.int .i64 K, .slice a n cap] 24)).alloc (.cells #[.int .i64 0, .slice none 0 0] 24) = x := ⟨_, rfl⟩
  have HY := Lib.hid hy
  rw [hy] at c0 c1 cf
  have HC0 := Lib.hid c0
  have HC1 := Lib.hid c1
  have HCF := Lib.hid cf
  have HUY : Hid (Up w y) := Lib.hid (hy ▸ ((Up.refl w).alloc _).alloc _)
  obtain ⟨O, hO⟩ : ∃ O, w.heap.size + 1 + 1 = O := ⟨_, rfl⟩
  have hyO : y.heap.size = O := by rw [← hy, size_alloc, size_alloc, hO]
  have HO := Lib.hid hO
  have HYO := Lib.hid hyO
  have HKO := Lib.hid hKo
  clear hv hn hl hd hG hg hgl hKo c0 c1 cf hset hy hO hyO
  by_cases hG2 : G = 9223372036854775808
  · obtain rfl := hG2.symm
    have hkk : (K < 0 → Ko = -1) ∧ (¬ K < 0 → Ko = 0) := by
      have := HKO.out
      constructor <;> intro h <;> omega
    by_cases hneg : K < 0
    · have HKE := Lib.hid (hkk.1 hneg)
      clear hkk
      go_enter Tryd.func38, Tryd.ntmps38
      go_wp2
      rw [HY.out]
      try rw [HO.out]
      have q2 : w.heap.size + 1 < O := by have := HO.out; omega
      have q1 : w.heap.size + 1 < y.heap.size := by have := HYO.out; omega
      obtain ⟨W3, hW3⟩ : ∃ W, y.alloc (.cells #[.int .i64 (-1), .slice none 0 0] 24) = W := ⟨_, rfl⟩
      rw [hW3]
      have hO3 : OutAt W3 (O + 1) O (-1) [] 0 none 0 := by
        refine ⟨rfl, ?_, World.ownsRow_nil _ _ _ _, by omega, ?_⟩
        · rw [← hW3, ← HYO.out]; exact heap_alloc_new y _
        · rw [← hW3, size_alloc, HYO.out]; omega
      have HU3 : Hid (Up w W3) := Lib.hid (hW3 ▸ HUY.out.alloc _)
      have e0 : W3.cell? ⟨w.heap.size + 1, 0, none⟩ = some (.int .i64 0) := by
        rw [← hW3]; exact ((((Up.refl y).alloc _).cell _ _ q1).trans HC0.out)
      have e1 : W3.cell? ⟨w.heap.size + 1, 1, none⟩ = some (.slice none 0 0) := by
        rw [← hW3]; exact ((((Up.refl y).alloc _).cell _ _ q1).trans HC1.out)
      have ef : ∀ o, W3.frozen? ⟨w.heap.size + 1, o, none⟩ = false := fun o => by
        rw [← hW3]; exact ((((Up.refl y).alloc _).frozen _ _ q1).trans (HCF.out o))
      have hs3 : W3.heap.size = O + 1 := by rw [← hW3, size_alloc, HYO.out]
      clear hW3 q1
      have HO3 := Lib.hid hO3
      have HE0 := Lib.hid e0
      have HE1 := Lib.hid e1
      have HEF := Lib.hid ef
      clear hO3 e0 e1 ef
      go_loopw [21] (fun i wr => ∃ (k : Nat) (va : Option Addr) (vc : Nat), k ≤ n ∧ i = .int .i64 k ∧ OutAt wr (O + 1) O (-1) (divL (l.take k) 9223372036854775808) k va vc ∧ UpRow (O + 1) O W3 wr) (fun i _ => n - (intOf i).toNat)
      case atStart => exact ⟨0, none, 0, by omega, rfl, HO3.out, UpRow.refl _ _ _⟩
      case round =>
        rename World => wr
        obtain ⟨k, va, vc, hk, rfl, hOut, hRow⟩ := hrel
        have hU := UpRow.up HU3.out (by omega : w.heap.size ≤ O) (by omega) hRow
        obtain ⟨o0, o1, of, ol⟩ := hOut.cells
        have HOut := Lib.hid hOut
        have HRow := Lib.hid hRow
        have q6 : O < wr.heap.size := ol
        have q9 : w.heap.size + 1 < wr.heap.size := by omega
        clear hOut hRow
        by_cases hlt : k < n
        · have hlt2 : (k : Int) < (n : Int) := by omega
          have hk0 : (0 : Int) ≤ (k : Int) := by omega
          obtain ⟨bl, off, s, b, rfl, p1, p2, p3, p4⟩ := HV.out.elem hU k (by rw [HN.out]; exact hlt) HN.out rfl
          obtain ⟨b0, b1⟩ : In64 b := by
            have := HL.out k (by rw [HN.out]; exact hlt)
            rw [p2] at this; exact this
          have htk := take_snoc (by rw [HN.out]; exact hlt) p2
          have hmem : (s, b) ∈ l := by
            have h9 : k < l.length := by rw [HN.out]; exact hlt
            rw [List.getD_eq_getElem?_getD, List.getElem?_eq_getElem h9] at p2
            exact p2 ▸ List.getElem_mem h9
          obtain ⟨hdv, hnz⟩ := HD.out _ hmem
          have hdv2 : (9223372036854775808 : Int) ∣ b := hdv
          have hnz2 : b ≠ 0 := hnz
          have hq : b / 9223372036854775808 = -1 := by
            obtain ⟨t, ht⟩ := hdv2
            omega
          have HO2 : Hid (divL (l.take (k + 1)) 9223372036854775808 = divL (l.take k) 9223372036854775808 ++ [(s, -1)]) := Lib.hid (by
            rw [htk, divL_snoc, hq])
          have q5 : bl < wr.heap.size := by have := hU.size; omega
          obtain ⟨wa, hwa⟩ : ∃ wa, wr.alloc (.cells #[.string s, .int .i64 b] 56) = wa := ⟨_, rfl⟩
          have hUa : Up wr wa := hwa ▸ (Up.refl wr).alloc _
          have hOa := HOut.out.up hUa
          obtain ⟨a0, a1, af, al⟩ := hOa.cells
          have hsa : wa.heap.size = wr.heap.size + 1 := by rw [← hwa, size_alloc]
          have d0 : wa.cell? ⟨wr.heap.size, 0, none⟩ = some (.string s) := by rw [← hwa]; exact cell_of_row _ _ _ _ _ _ (heap_alloc_new wr _)
          have d1 : wa.cell? ⟨wr.heap.size, 1, none⟩ = some (.int .i64 b) := by rw [← hwa]; exact cell_of_row _ _ _ _ _ _ (heap_alloc_new wr _)
          have HWA := Lib.hid hwa
          have HOA := Lib.hid hOa
          have HKEY := Lib.hid (hOa.key s (-1))
          have HRA := Lib.hid (HRow.out.trans (hUa.row (by omega : O + 1 ≤ wr.heap.size)))
          have q7 : wr.heap.size < wa.heap.size := by omega
          have q8 : wr.heap.size < wa.heap.size + 1 := by omega
          have hkm : (k : Int) ≤ 1000 := by omega
          clear hwa hUa hOa o0 o1 of hsa hU p2 htk hmem hdv hdv2 hnz hnz2 hq
          go_upto_region 9 with fail
          rw [HWA.out]
          go_wp2_with (at_builtin; refine wpList_append_sl _ rfl _ _ 22 rfl (O + 1) 56 i0 _ 2 24 Tryd.underlying22 hi0 hz0 hz1 hz2 rfl (by decide) (.slice va k vc) k _ rfl (HOA.out.2.2.1.alloc _) (.slice (some ⟨wa.heap.size, 0, none⟩) 1 1) 1 _ rfl (mono_sl wa s (-1)) (mono_one s (-1)) (by unfold maxLen; omega) (by omega) (by have := HOA.out.2.2.2.2; simp; omega) ?_; intro v1 w1 hown1 hg1 hat1 hnil1; obtain ⟨vb, vd, rfl⟩ := own_slice hown1; obtain ⟨d2, d3, HD2, HD3, HD4⟩ := HKEY.out w1 hg1; have HO1 := Lib.hid hown1; clear hown1 hg1 hat1 hnil1)
          obtain ⟨hf1, hf2⟩ := HOA.out.done s (-1) HD2.out HD3.out HD4.out vb vd HO1.out
          go_roundw
          case rel => exact ⟨k + 1, vb, vd, by omega, by go_num, by rw [HO2.out]; exact hf1, HRA.out.trans hf2⟩
          case measure => simp [intOf]; omega
        · have hlt2 : (n : Int) ≤ (k : Int) := by omega
          have hkn : k = n := by omega
          subst hkn
          have hta : l.take k = l := List.take_of_length_le (by rw [HN.out]; omega)
          have c0 : wr.cell? ⟨w.heap.size + 1, 0, none⟩ = some (.int .i64 0) := (HRow.out.cell _ _ (by omega) (by omega)).trans HE0.out
          have c1 : wr.cell? ⟨w.heap.size + 1, 1, none⟩ = some (.slice none 0 0) := (HRow.out.cell _ _ (by omega) (by omega)).trans HE1.out
          have cf : ∀ o, wr.frozen? ⟨w.heap.size + 1, o, none⟩ = false := fun o => by
            have h1 := HRow.out.block (w.heap.size + 1) (by omega) (by omega)
            have h2 := HEF.out o
            unfold World.frozen? at h2 ⊢
            rw [h1]; exact h2
          have HUW := Lib.hid hU
          clear hU
          go_wp2
          refine bodyPost_ret (v := .agg #[.int .i64 (-1), .slice va k vc]) (by simp [results, Tryd.results38, go_sem, c0, c1]) rfl ?_
          refine ⟨⟨.slice va k vc, by rw [HKE.out], ?_, own_cap HOut.out.2.2.1, own_fresh HOut.out.2.2.1 (by omega)⟩, by repeat (first | exact HUW.out | refine HSET.out _ _ _ ?_)⟩
          have hoo := HOut.out
          rw [hta] at hoo
          have hle : k = (divL l 9223372036854775808).length := hoo.1
          show SlAt _ _ (divL l 9223372036854775808).length 2 _
          rw [← hle]
          refine SlAt.of_own (base := O + 1) (e := 56) (xs := monoCells (divL l 9223372036854775808)) ?_ (by omega) (fun i j hi hj => monoCells_get _ i j (by omega) hj)
          repeat (first | exact hoo.2.2.1 | refine ownsRow_setCell_below ?_ (by show w.heap.size + 1 < O + 1; omega) _)
    · have HKE := Lib.hid (hkk.2 hneg)
      clear hkk
      go_enter Tryd.func38, Tryd.ntmps38
      go_wp2
      rw [HY.out]
      try rw [HO.out]
      have q2 : w.heap.size + 1 < O := by have := HO.out; omega
      have q1 : w.heap.size + 1 < y.heap.size := by have := HYO.out; omega
      obtain ⟨W3, hW3⟩ : ∃ W, y.alloc (.cells #[.int .i64 (0), .slice none 0 0] 24) = W := ⟨_, rfl⟩
      rw [hW3]
      have hO3 : OutAt W3 (O + 1) O (0) [] 0 none 0 := by
        refine ⟨rfl, ?_, World.ownsRow_nil _ _ _ _, by omega, ?_⟩
        · rw [← hW3, ← HYO.out]; exact heap_alloc_new y _
        · rw [← hW3, size_alloc, HYO.out]; omega
      have HU3 : Hid (Up w W3) := Lib.hid (hW3 ▸ HUY.out.alloc _)
      have e0 : W3.cell? ⟨w.heap.size + 1, 0, none⟩ = some (.int .i64 0) := by
        rw [← hW3]; exact ((((Up.refl y).alloc _).cell _ _ q1).trans HC0.out)
      have e1 : W3.cell? ⟨w.heap.size + 1, 1, none⟩ = some (.slice none 0 0) := by
        rw [← hW3]; exact ((((Up.refl y).alloc _).cell _ _ q1).trans HC1.out)
      have ef : ∀ o, W3.frozen? ⟨w.heap.size + 1, o, none⟩ = false := fun o => by
        rw [← hW3]; exact ((((Up.refl y).alloc _).frozen _ _ q1).trans (HCF.out o))
      have hs3 : W3.heap.size = O + 1 := by rw [← hW3, size_alloc, HYO.out]
      clear hW3 q1
      have HO3 := Lib.hid hO3
      have HE0 := Lib.hid e0
      have HE1 := Lib.hid e1
      have HEF := Lib.hid ef
      clear hO3 e0 e1 ef
      go_loopw [21] (fun i wr => ∃ (k : Nat) (va : Option Addr) (vc : Nat), k ≤ n ∧ i = .int .i64 k ∧ OutAt wr (O + 1) O (0) (divL (l.take k) 9223372036854775808) k va vc ∧ UpRow (O + 1) O W3 wr) (fun i _ => n - (intOf i).toNat)
      case atStart => exact ⟨0, none, 0, by omega, rfl, HO3.out, UpRow.refl _ _ _⟩
      case round =>
        rename World => wr
        obtain ⟨k, va, vc, hk, rfl, hOut, hRow⟩ := hrel
        have hU := UpRow.up HU3.out (by omega : w.heap.size ≤ O) (by omega) hRow
        obtain ⟨o0, o1, of, ol⟩ := hOut.cells
        have HOut := Lib.hid hOut
        have HRow := Lib.hid hRow
        have q6 : O < wr.heap.size := ol
        have q9 : w.heap.size + 1 < wr.heap.size := by omega
        clear hOut hRow
        by_cases hlt : k < n
        · have hlt2 : (k : Int) < (n : Int) := by omega
          have hk0 : (0 : Int) ≤ (k : Int) := by omega
          obtain ⟨bl, off, s, b, rfl, p1, p2, p3, p4⟩ := HV.out.elem hU k (by rw [HN.out]; exact hlt) HN.out rfl
          obtain ⟨b0, b1⟩ : In64 b := by
            have := HL.out k (by rw [HN.out]; exact hlt)
            rw [p2] at this; exact this
          have htk := take_snoc (by rw [HN.out]; exact hlt) p2
          have hmem : (s, b) ∈ l := by
            have h9 : k < l.length := by rw [HN.out]; exact hlt
            rw [List.getD_eq_getElem?_getD, List.getElem?_eq_getElem h9] at p2
            exact p2 ▸ List.getElem_mem h9
          obtain ⟨hdv, hnz⟩ := HD.out _ hmem
          have hdv2 : (9223372036854775808 : Int) ∣ b := hdv
          have hnz2 : b ≠ 0 := hnz
          have hq : b / 9223372036854775808 = -1 := by
            obtain ⟨t, ht⟩ := hdv2
            omega
          have HO2 : Hid (divL (l.take (k + 1)) 9223372036854775808 = divL (l.take k) 9223372036854775808 ++ [(s, -1)]) := Lib.hid (by
            rw [htk, divL_snoc, hq])
          have q5 : bl < wr.heap.size := by have := hU.size; omega
          obtain ⟨wa, hwa⟩ : ∃ wa, wr.alloc (.cells #[.string s, .int .i64 b] 56) = wa := ⟨_, rfl⟩
          have hUa : Up wr wa := hwa ▸ (Up.refl wr).alloc _
          have hOa := HOut.out.up hUa
          obtain ⟨a0, a1, af, al⟩ := hOa.cells
          have hsa : wa.heap.size = wr.heap.size + 1 := by rw [← hwa, size_alloc]
          have d0 : wa.cell? ⟨wr.heap.size, 0, none⟩ = some (.string s) := by rw [← hwa]; exact cell_of_row _ _ _ _ _ _ (heap_alloc_new wr _)
          have d1 : wa.cell? ⟨wr.heap.size, 1, none⟩ = some (.int .i64 b) := by rw [← hwa]; exact cell_of_row _ _ _ _ _ _ (heap_alloc_new wr _)
          have HWA := Lib.hid hwa
          have HOA := Lib.hid hOa
          have HKEY := Lib.hid (hOa.key s (-1))
          have HRA := Lib.hid (HRow.out.trans (hUa.row (by omega : O + 1 ≤ wr.heap.size)))
          have q7 : wr.heap.size < wa.heap.size := by omega
          have q8 : wr.heap.size < wa.heap.size + 1 := by omega
          have hkm : (k : Int) ≤ 1000 := by omega
          clear hwa hUa hOa o0 o1 of hsa hU p2 htk hmem hdv hdv2 hnz hnz2 hq
          go_upto_region 9 with fail
          rw [HWA.out]
          go_wp2_with (at_builtin; refine wpList_append_sl _ rfl _ _ 22 rfl (O + 1) 56 i0 _ 2 24 Tryd.underlying22 hi0 hz0 hz1 hz2 rfl (by decide) (.slice va k vc) k _ rfl (HOA.out.2.2.1.alloc _) (.slice (some ⟨wa.heap.size, 0, none⟩) 1 1) 1 _ rfl (mono_sl wa s (-1)) (mono_one s (-1)) (by unfold maxLen; omega) (by omega) (by have := HOA.out.2.2.2.2; simp; omega) ?_; intro v1 w1 hown1 hg1 hat1 hnil1; obtain ⟨vb, vd, rfl⟩ := own_slice hown1; obtain ⟨d2, d3, HD2, HD3, HD4⟩ := HKEY.out w1 hg1; have HO1 := Lib.hid hown1; clear hown1 hg1 hat1 hnil1)
          obtain ⟨hf1, hf2⟩ := HOA.out.done s (-1) HD2.out HD3.out HD4.out vb vd HO1.out
          go_roundw
          case rel => exact ⟨k + 1, vb, vd, by omega, by go_num, by rw [HO2.out]; exact hf1, HRA.out.trans hf2⟩
          case measure => simp [intOf]; omega
        · have hlt2 : (n : Int) ≤ (k : Int) := by omega
          have hkn : k = n := by omega
          subst hkn
          have hta : l.take k = l := List.take_of_length_le (by rw [HN.out]; omega)
          have c0 : wr.cell? ⟨w.heap.size + 1, 0, none⟩ = some (.int .i64 0) := (HRow.out.cell _ _ (by omega) (by omega)).trans HE0.out
          have c1 : wr.cell? ⟨w.heap.size + 1, 1, none⟩ = some (.slice none 0 0) := (HRow.out.cell _ _ (by omega) (by omega)).trans HE1.out
          have cf : ∀ o, wr.frozen? ⟨w.heap.size + 1, o, none⟩ = false := fun o => by
            have h1 := HRow.out.block (w.heap.size + 1) (by omega) (by omega)
            have h2 := HEF.out o
            unfold World.frozen? at h2 ⊢
            rw [h1]; exact h2
          have HUW := Lib.hid hU
          clear hU
          go_wp2
          refine bodyPost_ret (v := .agg #[.int .i64 (0), .slice va k vc]) (by simp [results, Tryd.results38, go_sem, c0, c1]) rfl ?_
          refine ⟨⟨.slice va k vc, by rw [HKE.out], ?_, own_cap HOut.out.2.2.1, own_fresh HOut.out.2.2.1 (by omega)⟩, by repeat (first | exact HUW.out | refine HSET.out _ _ _ ?_)⟩
          have hoo := HOut.out
          rw [hta] at hoo
          have hle : k = (divL l 9223372036854775808).length := hoo.1
          show SlAt _ _ (divL l 9223372036854775808).length 2 _
          rw [← hle]
          refine SlAt.of_own (base := O + 1) (e := 56) (xs := monoCells (divL l 9223372036854775808)) ?_ (by omega) (fun i j hi hj => monoCells_get _ i j (by omega) hj)
          repeat (first | exact hoo.2.2.1 | refine ownsRow_setCell_below ?_ (by show w.heap.size + 1 < O + 1; omega) _)
  · have hgn : (G == 9223372036854775808) = false := by simpa using hG2
    have hgi : IntKind.i64.wrap G = G := by rw [IntKind.wrap_i64]; omega
    have G2 : G ≤ 9223372036854775807 := by omega
    have hgz : (G == 0) = false := by simp; omega
    have hgm : ¬ G = 0 := by omega
    have HFD : Hid (∀ w, Calls Tryd.prog 62 #[.int .i64 K, .int .i64 G] w fun e w' => e = .returned (.int .i64 Ko) ∧ Up w w') := Lib.hid fun w => by
      have := con_floorDiv K G HKI.out G0 G2 w
      rw [HKO.out] at this; exact this
    · go_enter Tryd.func38, Tryd.ntmps38
      go_wp2_with fail
      refine (HFD.out _).mono ?_
      rintro e x2 ⟨rfl, hx2⟩
      rw [HY.out] at hx2
      have hs2 := hx2.size
      rw [size_alloc, HYO.out] at hs2
      have q2 : w.heap.size + 1 < O := by have := HO.out; omega
      have q1 : w.heap.size + 1 < y.heap.size := by have := HYO.out; omega
      have q3 : O < x2.heap.size := by omega
      have hU2 : Up y x2 := ((Up.refl y).alloc _).trans hx2
      have hO2 : OutAt x2 (O + 1) O 0 [] 0 none 0 := by
        refine ⟨rfl, ?_, World.ownsRow_nil _ _ _ _, by omega, hs2⟩
        exact (hx2.heap O (by rw [size_alloc, HYO.out]; omega)).trans (by rw [← HYO.out]; exact heap_alloc_new y _)
      obtain ⟨o0, o1, of, _⟩ := hO2.cells
      have hO3 := hO2.setK (K' := Ko)
      have e0' : x2.cell? ⟨w.heap.size + 1, 0, none⟩ = some (.int .i64 0) := (hU2.cell _ _ q1).trans HC0.out
      have e1' : x2.cell? ⟨w.heap.size + 1, 1, none⟩ = some (.slice none 0 0) := (hU2.cell _ _ q1).trans HC1.out
      have ef' : ∀ o, x2.frozen? ⟨w.heap.size + 1, o, none⟩ = false := fun o => (hU2.frozen _ _ q1).trans (HCF.out o)
      have b1 : x2.cell? ⟨w.heap.size, 1, none⟩ = some (.slice a n cap) := (hU2.cell _ _ (by omega)).trans (by rw [← HY.out]; go_simp)
      have HO3 := Lib.hid hO3
      have HX2 := Lib.hid (HUY.out.trans hU2)
      have HE0' := Lib.hid e0'
      have HE1' := Lib.hid e1'
      have HEF' := Lib.hid ef'
      have HS2 := Lib.hid hs2
      try rw [HO.out]
      clear hx2 hO2 hO3 e0' e1' ef' hs2 hU2 q1
      go_wp2
      obtain ⟨W3, hW3⟩ : ∃ W, x2.setCell ⟨O, 0, none⟩ (.int .i64 Ko) = W := ⟨_, rfl⟩
      rw [hW3]
      have hO3 : OutAt W3 (O + 1) O Ko [] 0 none 0 := hW3 ▸ HO3.out
      have hset2 : UpRow (O + 1) O x2 W3 := hW3 ▸ (UpRow.refl _ _ _).set 0 _
      have HU3 : Hid (Up w W3) := Lib.hid (UpRow.up HX2.out (by omega) (by omega) hset2)
      have e0 : W3.cell? ⟨w.heap.size + 1, 0, none⟩ = some (.int .i64 0) := (hset2.cell _ _ (by omega) (by omega)).trans HE0'.out
      have e1 : W3.cell? ⟨w.heap.size + 1, 1, none⟩ = some (.slice none 0 0) := (hset2.cell _ _ (by omega) (by omega)).trans HE1'.out
      have ef : ∀ o, W3.frozen? ⟨w.heap.size + 1, o, none⟩ = false := fun o => by
        have h1 := hset2.block (w.heap.size + 1) (by omega) (by omega)
        have h2 := HEF'.out o
        unfold World.frozen? at h2 ⊢
        rw [h1]; exact h2
      have hs3 : O + 1 ≤ W3.heap.size := Nat.le_trans HS2.out hset2.size
      clear hW3 hset2 o0 o1 of b1
      have HO3 := Lib.hid hO3
      have HE0 := Lib.hid e0
      have HE1 := Lib.hid e1
      have HEF := Lib.hid ef
      clear hO3 e0 e1 ef
      go_loopw [44] (fun i wr => ∃ (k : Nat) (va : Option Addr) (vc : Nat), k ≤ n ∧ i = .int .i64 k ∧ OutAt wr (O + 1) O (Ko) (divL (l.take k) G) k va vc ∧ UpRow (O + 1) O W3 wr) (fun i _ => n - (intOf i).toNat)
      case atStart => exact ⟨0, none, 0, by omega, rfl, HO3.out, UpRow.refl _ _ _⟩
      case round =>
        rename World => wr
        obtain ⟨k, va, vc, hk, rfl, hOut, hRow⟩ := hrel
        have hU := UpRow.up HU3.out (by omega : w.heap.size ≤ O) (by omega) hRow
        obtain ⟨o0, o1, of, ol⟩ := hOut.cells
        have HOut := Lib.hid hOut
        have HRow := Lib.hid hRow
        have q6 : O < wr.heap.size := ol
        have q9 : w.heap.size + 1 < wr.heap.size := by omega
        clear hOut hRow
        by_cases hlt : k < n
        · have hlt2 : (k : Int) < (n : Int) := by omega
          have hk0 : (0 : Int) ≤ (k : Int) := by omega
          obtain ⟨bl, off, s, b, rfl, p1, p2, p3, p4⟩ := HV.out.elem hU k (by rw [HN.out]; exact hlt) HN.out rfl
          obtain ⟨b0, b1⟩ : In64 b := by
            have := HL.out k (by rw [HN.out]; exact hlt)
            rw [p2] at this; exact this
          have htk := take_snoc (by rw [HN.out]; exact hlt) p2
          have hmem : (s, b) ∈ l := by
            have h9 : k < l.length := by rw [HN.out]; exact hlt
            rw [List.getD_eq_getElem?_getD, List.getElem?_eq_getElem h9] at p2
            exact p2 ▸ List.getElem_mem h9
          obtain ⟨hdv, hnz⟩ := HD.out _ hmem
          have hdv2 : (G : Int) ∣ b := hdv
          have hnz2 : b ≠ 0 := hnz
          obtain ⟨c, hq⟩ : ∃ c, b / G = c := ⟨_, rfl⟩
          have htd : b.tdiv G = c := by rw [Int.tdiv_eq_ediv_of_dvd hdv2, hq]
          have hcr : -9223372036854775808 ≤ c ∧ c ≤ 9223372036854775807 := by
            obtain ⟨t, ht⟩ := hdv2
            have htc : c = t := by rw [← hq, ht, Int.mul_ediv_cancel_left _ (by omega)]
            rw [htc]
            by_cases t0 : 0 ≤ t
            · have := Int.mul_le_mul_of_nonneg_right (show 1 ≤ G by omega) t0
              omega
            · have := Int.mul_le_mul_of_nonpos_right (show 1 ≤ G by omega) (show t ≤ 0 by omega)
              omega
          obtain ⟨hc0, hc1⟩ := hcr
          have hwc : IntKind.i64.wrap c = c := by rw [IntKind.wrap_i64]; omega
          have HO2 : Hid (divL (l.take (k + 1)) G = divL (l.take k) G ++ [(s, c)]) := Lib.hid (by
            rw [htk, divL_snoc, hq])
          have q5 : bl < wr.heap.size := by have := hU.size; omega
          obtain ⟨wa, hwa⟩ : ∃ wa, wr.alloc (.cells #[.string s, .int .i64 b] 56) = wa := ⟨_, rfl⟩
          have hUa : Up wr wa := hwa ▸ (Up.refl wr).alloc _
          have hOa := HOut.out.up hUa
          obtain ⟨a0, a1, af, al⟩ := hOa.cells
          have hsa : wa.heap.size = wr.heap.size + 1 := by rw [← hwa, size_alloc]
          have d0 : wa.cell? ⟨wr.heap.size, 0, none⟩ = some (.string s) := by rw [← hwa]; exact cell_of_row _ _ _ _ _ _ (heap_alloc_new wr _)
          have d1 : wa.cell? ⟨wr.heap.size, 1, none⟩ = some (.int .i64 b) := by rw [← hwa]; exact cell_of_row _ _ _ _ _ _ (heap_alloc_new wr _)
          have HWA := Lib.hid hwa
          have HOA := Lib.hid hOa
          have HKEY := Lib.hid (hOa.key s (c))
          have HRA := Lib.hid (HRow.out.trans (hUa.row (by omega : O + 1 ≤ wr.heap.size)))
          have q7 : wr.heap.size < wa.heap.size := by omega
          have q8 : wr.heap.size < wa.heap.size + 1 := by omega
          have hkm : (k : Int) ≤ 1000 := by omega
          clear hwa hUa hOa o0 o1 of hsa hU p2 htk hmem hdv hdv2 hnz hnz2 hq
          go_upto_region 16 with fail
          rw [HWA.out]
          go_wp2_with fail
          have HSL := Lib.hid (SlAt.up (mono_sl wa s c) ((Up.refl _).drew))
          go_region_law (refine wp_append_sl _ _ _ 22 rfl (O + 1) 56 i0 _ 2 24 Tryd.underlying22 hi0 hz0 hz1 hz2 rfl (by decide) (.slice va k vc) k _ rfl (HOA.out.2.2.1.alloc _).drew (.slice (some ⟨wa.heap.size, 0, none⟩) 1 1) 1 _ rfl HSL.out (mono_one s c) (by unfold maxLen; omega) (by omega) (by have := HOA.out.2.2.2.2; simp; omega) ?_; intro v1 w1 hown1 hg1 hat1 hnil1; obtain ⟨vb, vd, rfl⟩ := own_slice hown1; obtain ⟨d2, d3, HD2, HD3, HD4⟩ := HKEY.out w1 (undrew hg1); have HO1 := Lib.hid hown1; clear hown1 hg1 hat1 hnil1)
          all_goals
            obtain ⟨hf1, hf2⟩ := HOA.out.done s c HD2.out HD3.out HD4.out vb vd HO1.out
            go_wp2
            go_roundw
            case rel => exact ⟨k + 1, vb, vd, by omega, by go_num, by rw [HO2.out]; exact hf1, HRA.out.trans hf2⟩
            case measure => simp [intOf]; omega
        · have hlt2 : (n : Int) ≤ (k : Int) := by omega
          have hkn : k = n := by omega
          subst hkn
          have hta : l.take k = l := List.take_of_length_le (by rw [HN.out]; omega)
          have c0 : wr.cell? ⟨w.heap.size + 1, 0, none⟩ = some (.int .i64 0) := (HRow.out.cell _ _ (by omega) (by omega)).trans HE0.out
          have c1 : wr.cell? ⟨w.heap.size + 1, 1, none⟩ = some (.slice none 0 0) := (HRow.out.cell _ _ (by omega) (by omega)).trans HE1.out
          have cf : ∀ o, wr.frozen? ⟨w.heap.size + 1, o, none⟩ = false := fun o => by
            have h1 := HRow.out.block (w.heap.size + 1) (by omega) (by omega)
            have h2 := HEF.out o
            unfold World.frozen? at h2 ⊢
            rw [h1]; exact h2
          have HUW := Lib.hid hU
          clear hU
          go_wp2
          refine bodyPost_ret (v := .agg #[.int .i64 (Ko), .slice va k vc]) (by simp [results, Tryd.results38, go_sem, c0, c1]) rfl ?_
          refine ⟨⟨.slice va k vc, rfl, ?_, own_cap HOut.out.2.2.1, own_fresh HOut.out.2.2.1 (by omega)⟩, by repeat (first | exact HUW.out | refine HSET.out _ _ _ ?_)⟩
          have hoo := HOut.out
          rw [hta] at hoo
          have hle : k = (divL l G).length := hoo.1
          show SlAt _ _ (divL l G).length 2 _
          rw [← hle]
          refine SlAt.of_own (base := O + 1) (e := 56) (xs := monoCells (divL l G)) ?_ (by omega) (fun i j hi hj => monoCells_get _ i j (by omega) hj)
          repeat (first | exact hoo.2.2.1 | refine ownsRow_setCell_below ?_ (by show w.heap.size + 1 < O + 1; omega) _)
end Go.Proofs.YtahlecmlhdikjaaDoor
end

section
namespace Go.Proofs.YtahlecmlhdikjaaDoor
open Go.ChangeShapes Go.WideShapes Go.ChangeAt Go.RowKit
set_option linter.unusedVariables false
set_option linter.unusedSimpArgs false

section
variable {P : Program} {ops : Array Oper} {md : Region.Mode} {w : World} {M : FuncId → Array Value → Value → World → Prop}

/-- What an operation that comes up in the world x may end in: it only makes memory; a call keeps to the table of contracts M. -/
def GoodR (P : Program) (M : FuncId → Array Value → Value → World → Prop) (x : World) : Result Next → Prop
  | .ok (.value _) x1 => Up x x1
  | .ok .skip x1 => Up x x1
  | .ok (.enter f args) x1 => Up x x1 ∧ Calls P f args x1 fun e x' => ∃ v, e = .returned v ∧ Up x1 x' ∧ M f args v x'
  | _ => False
/-- The outcome v, x'. -/
def OutR (M : FuncId → Array Value → Value → World → Prop) (v : Value) (x' : World) : Result Next → Prop
  | .ok (.value u) x1 => u = v ∧ x1 = x'
  | .ok .skip x1 => v = undef ∧ x1 = x'
  | .ok (.enter f args) x1 => Up x1 x' ∧ M f args v x'
  | _ => False
def GoodM (P : Program) (M : FuncId → Array Value → Value → World → Prop) (w : World) (o : Oper) (a : Act) : Prop := ∀ x, Up w x → GoodR P M x ((execOp a.eval o).run P x)
def SPM (P : Program) (M : FuncId → Array Value → Value → World → Prop) (w : World) (o : Oper) (a : Act) (v : Value) (y : World) : Prop := ∃ x x', Up w x ∧ OutR M v x' ((execOp a.eval o).run P x) ∧ Up x' y
def mGood (P : Program) (ops : Array Oper) (M : FuncId → Array Value → Value → World → Prop) (w : World) (o : Oper) (a : Act) : Prop := Region.wanted o (yielded ops a.tmps) = true → GoodM P M w o a
def mRes (P : Program) (ops : Array Oper) (M : FuncId → Array Value → Value → World → Prop) (w : World) (o : Oper) (a : Act) (v : Value) (T : World → Prop) : Prop :=
  if Region.wanted o (yielded ops a.tmps) = true then (∃ y, Up w y ∧ SPM P M w o a v y) ∧ T = SPM P M w o a v else v = undef ∧ T = fun _ => True
def mStep (P : Program) (ops : Array Oper) (M : FuncId → Array Value → Value → World → Prop) (w : World) (o : Oper) (K : Act → (World → Prop) → Prop) (a : Act) (S : World → Prop) : Prop :=
  mGood P ops M w o a ∧ ∀ v T, mRes P ops M w o a v T → K (a.put o.dst v) (fun y => S y ∧ T y)
def mOp (P : Program) (ops : Array Oper) (M : FuncId → Array Value → Value → World → Prop) (w : World) (i : Nat) (K : Act → (World → Prop) → Prop) (a : Act) (S : World → Prop) : Prop :=
  match ops[i]? with
  | none => K a S
  | some o => mStep P ops M w o K a S
/-- The walk in the text's order. -/
def wpMk (P : Program) (ops : Array Oper) (M : FuncId → Array Value → Value → World → Prop) (w : World) (L : Act → (World → Prop) → Prop) : List Oper → Act → (World → Prop) → Prop
  | [], a, S => L a S
  | o :: rest, a, S => mStep P ops M w o (wpMk P ops M w L rest) a S

def KeptS (S : World → Prop) : Prop := ∀ x y, S x → Up x y → S y
theorem SPM.kept {o : Oper} {a : Act} {v : Value} : KeptS (SPM P M w o a v) := fun _ _ ⟨x, x', h1, h2, h3⟩ hu => ⟨x, x', h1, h2, h3.trans hu⟩
theorem mRes.kept {o : Oper} {a : Act} {v : Value} {T : World → Prop} (h : mRes P ops M w o a v T) : KeptS T := by
  unfold mRes at h
  split at h
  · rw [h.2]; exact SPM.kept
  · rw [h.2]; exact fun _ _ _ _ => trivial
theorem mStep_mono {o : Oper} {K K' : Act → (World → Prop) → Prop} {a : Act} {S : World → Prop} (h : ∀ a S, K a S → K' a S) (hh : mStep P ops M w o K a S) : mStep P ops M w o K' a S :=
  ⟨hh.1, fun v T hr => h _ _ (hh.2 v T hr)⟩
theorem mOp_mono {i : Nat} {K K' : Act → (World → Prop) → Prop} {a : Act} {S : World → Prop} (h : ∀ a S, K a S → K' a S) (hh : mOp P ops M w i K a S) : mOp P ops M w i K' a S := by
  unfold mOp at *
  split
  · rename_i ho; simp only [ho] at hh; exact h _ _ hh
  · rename_i o ho; simp only [ho] at hh; exact mStep_mono h hh
theorem GoodM.some {o : Oper} {a : Act} (h : GoodM P M w o a) : ∃ v y, Up w y ∧ SPM P M w o a v y := by
  have h0 := h w (Up.refl w)
  have key : ∀ r : Result Next, GoodR P M w r → ∃ v x', Up w x' ∧ OutR M v x' r := fun r hr => by
    cases r with
    | ok n x1 =>
      cases n with
      | value u => exact ⟨u, x1, hr, rfl, rfl⟩
      | skip => exact ⟨undef, x1, hr, rfl, rfl⟩
      | enter f args =>
        obtain ⟨hu, hc⟩ := hr
        obtain ⟨e, w', fr, ⟨v, _, h2, h3⟩, _⟩ := hc []
        exact ⟨v, w', hu.trans h2, h2, h3⟩
      | _ => exact absurd hr (by simp [GoodR])
    | halt _ _ => exact absurd hr (by simp [GoodR])
  obtain ⟨v, x', h1, h2⟩ := key _ h0
  exact ⟨v, x', h1, w, x', Up.refl w, h2, Up.refl _⟩
theorem mGood.some {o : Oper} {a : Act} (h : mGood P ops M w o a) : ∃ v T, mRes P ops M w o a v T := by
  unfold mRes
  by_cases hw : Region.wanted o (yielded ops a.tmps) = true
  · obtain ⟨v, y, h1, h2⟩ := (h hw).some
    exact ⟨v, _, by rw [if_pos hw]; exact ⟨⟨y, h1, h2⟩, rfl⟩⟩
  · exact ⟨undef, _, by rw [if_neg hw]; exact ⟨rfl, rfl⟩⟩

theorem mGood_put {o : Oper} {a : Act} (hs : ∀ cs b, o.op ≠ .select cs b) (dst : Option Tmp) (u : Value) (h : ∀ d, dst = some d → d ∉ o.looksAt ops) : mGood P ops M w o (a.put dst u) ↔ mGood P ops M w o a := by
  unfold mGood GoodM
  rw [execOp_put o hs a dst u h, wanted_put o a dst u h]
theorem mRes_put {o : Oper} {a : Act} (hs : ∀ cs b, o.op ≠ .select cs b) (dst : Option Tmp) (u : Value) (h : ∀ d, dst = some d → d ∉ o.looksAt ops) (v : Value) (T : World → Prop) : mRes P ops M w o (a.put dst u) v T ↔ mRes P ops M w o a v T := by
  unfold mRes SPM
  rw [execOp_put o hs a dst u h, wanted_put o a dst u h]

theorem mOp_put {j : Nat} {oi oj : Oper} (hj : ops[j]? = some oj) (hap : oi.apart ops oj = true)
    (hsi : ∀ cs b, oi.op ≠ .select cs b) (hsj : ∀ cs b, oj.op ≠ .select cs b) {K : Act → (World → Prop) → Prop} {a : Act} {S : World → Prop}
    (hy : mGood P ops M w oi a) (h : ∀ v T, mRes P ops M w oi a v T → mOp P ops M w j K (a.put oi.dst v) (fun y => S y ∧ T y)) :
    mOp P ops M w j (fun a' S' => mGood P ops M w oi a' ∧ ∀ v T, mRes P ops M w oi a' v T → K (a'.put oi.dst v) (fun y => S' y ∧ T y)) a S := by
  obtain ⟨h1, h2, h3⟩ := Oper.apart_spec hap
  unfold mOp at *
  simp only [hj] at *
  obtain ⟨v0, T0, hr0⟩ := hy.some
  refine ⟨(mGood_put hsj oi.dst v0 h1).1 (h v0 T0 hr0).1, fun u U hu => ⟨(mGood_put hsi oj.dst u h3).2 hy, fun v T hv => ?_⟩⟩
  have hv' := (mRes_put hsi oj.dst u h3 v T).1 hv
  have := (h v T hv').2 u U ((mRes_put hsj oi.dst v h1 u U).2 hu)
  rw [Act.put_comm a v u h2] at this
  have e : (fun y => (S y ∧ T y) ∧ U y) = (fun y => (S y ∧ U y) ∧ T y) := funext fun y => propext ⟨fun ⟨⟨a, b⟩, c⟩ => ⟨⟨a, c⟩, b⟩, fun ⟨⟨a, b⟩, c⟩ => ⟨⟨a, c⟩, b⟩⟩
  rw [e] at this
  exact this

def wpAnyM (P : Program) (md : Region.Mode) (ops : Array Oper) (M : FuncId → Array Value → Value → World → Prop) (w : World) (n : Nat) (L : Array Bool → Act → (World → Prop) → Prop) : Nat → Array Bool → Act → (World → Prop) → Prop
  | 0, listed, a, S => L listed a S
  | f + 1, listed, a, S =>
    Region.ready md ops listed ≠ [] ∧ ∀ i ∈ Region.ready md ops listed, i < n ∧ mOp P ops M w i (wpAnyM P md ops M w n L f (listed.setIfInBounds i true)) a S

theorem wpOp_of_mOp {i : Nat} {a : Act} {S : World → Prop} {K : Act → (World → Prop) → Prop} {K' : Act → World → Prop} {Q' : Exit → Act → World → Prop} {x : World} (hx : Up w x) (hS : S x) (hk : KeptS S)
    (h : ∀ a S x', Up w x' → S x' → KeptS S → K a S → K' a x') (hh : mOp P ops M w i K a S) : wpOp P ops Q' i K' a x := by
  unfold mOp at hh
  unfold wpOp
  split
  · rename_i ho; simp only [ho] at hh; exact h _ _ _ hx hS hk hh
  · rename_i o ho
    simp only [ho] at hh
    obtain ⟨hg, hn⟩ := hh
    split
    · rename_i hw
      refine .inl ?_
      have hgx := hg hw x hx
      have hn' : ∀ v x', Up x x' → OutR M v x' ((execOp a.eval o).run P x) → K' (a.put o.dst v) x' := fun v x' hu ho => by
        have hsp : SPM P M w o a v x' := ⟨x, x', hx, ho, Up.refl _⟩
        have hr : mRes P ops M w o a v (SPM P M w o a v) := by
          unfold mRes; rw [if_pos hw]; exact ⟨⟨x', hx.trans hu, hsp⟩, rfl⟩
        exact h _ _ _ (hx.trans hu) ⟨hk _ _ hS hu, hsp⟩ (fun y z hy hz => ⟨hk _ _ hy.1 hz, SPM.kept _ _ hy.2 hz⟩) (hn v _ hr)
      unfold Oper.wp
      generalize (execOp a.eval o).run P x = r at *
      cases r with
      | ok n x1 =>
        cases n with
        | value u => exact hn' u x1 hgx ⟨rfl, rfl⟩
        | skip => exact hn' undef x1 hgx ⟨rfl, rfl⟩
        | enter f args =>
          obtain ⟨hu, hc⟩ := hgx
          rw [Oper.upon_enter]
          refine hc.mono fun e x' ⟨v, he, h2, h3⟩ => ?_
          subst he
          exact hn' v x' (hu.trans h2) ⟨h2, h3⟩
        | _ => exact absurd hgx (by simp [GoodR])
      | halt _ _ => exact absurd hgx (by simp [GoodR])
    · rename_i hw
      have hr : mRes P ops M w o a undef (fun _ => True) := by unfold mRes; rw [if_neg hw]; exact ⟨rfl, rfl⟩
      exact h _ _ _ hx ⟨hS, trivial⟩ (fun y z hy hz => ⟨hk _ _ hy.1 hz, trivial⟩) (hn _ _ hr)

theorem wpAny_of_headM {n g : Nat} {L : Array Bool → Act → (World → Prop) → Prop} {Q' : Exit → Act → World → Prop} (hL : ∀ listed a S x, Up w x → S x → KeptS S → L listed a S → wpAny P md ops Q' g listed a x) :
    ∀ (f : Nat) (listed : Array Bool) (a : Act) (S : World → Prop) (x : World), Up w x → S x → KeptS S → wpAnyM P md ops M w n L f listed a S → wpAny P md ops Q' (f + g) listed a x
  | 0, listed, a, S, x, hx, hS, hk, h => by rw [Nat.zero_add]; exact hL _ _ _ _ hx hS hk h
  | f + 1, listed, a, S, x, hx, hS, hk, h => by
    rw [show f + 1 + g = (f + g) + 1 by omega]
    exact ⟨fun h0 => absurd h0 h.1, fun i hi => wpOp_of_mOp hx hS hk (fun a' S' x' h1 h2 h3 h' => wpAny_of_headM hL f _ a' S' x' h1 h2 h3 h') (h.2 i hi).2⟩

theorem wpAnyM_first {n i : Nat} {oi : Oper} {L : Array Bool → Act → (World → Prop) → Prop} (hi : ops[i]? = some oi) (hsel : ∀ (j : Nat) (o : Oper) cs b, ops[j]? = some o → o.op ≠ .select cs b)
    (hlt : ∀ listed, HeadInv md ops n listed → i ∈ Region.ready md ops listed → ∀ j ∈ Region.ready md ops listed, j < n)
    (hdone : ∀ listed a S, L listed a S → ∀ j ∈ Region.ready md ops listed, n ≤ j) :
    ∀ (f : Nat) (listed : Array Bool) (a : Act) (S : World → Prop), HeadInv md ops n listed →
      (∀ j oj, ops[j]? = some oj → j ≠ i → listed.getD j true = false → (∀ e ∈ oj.after, Region.binds md e = true → e.on ≠ i) → oi.apart ops oj = true) →
      i ∈ Region.ready md ops listed → mGood P ops M w oi a →
      (∀ v T, mRes P ops M w oi a v T → wpAnyM P md ops M w n L f (listed.setIfInBounds i true) (a.put oi.dst v) (fun y => S y ∧ T y)) → wpAnyM P md ops M w n L (f + 1) listed a S := by
  intro f
  induction f with
  | zero =>
    intro listed a S inv _ hr hy H
    have hun := (mem_ready.1 hr).1
    refine ⟨fun h => (by rw [h] at hr; cases hr), fun j hj => ?_⟩
    have hjn : j < n := hlt listed inv hr j hj
    refine ⟨hjn, ?_⟩
    by_cases hji : j = i
    · subst hji; unfold mOp; simp only [hi]; exact ⟨hy, H⟩
    · obtain ⟨v0, T0, hr0⟩ := hy.some
      have := hdone _ _ _ (H v0 T0 hr0) j (ready_mono hj hji)
      omega
  | succ f ih =>
    intro listed a S inv hfree hr hy H
    have hun := (mem_ready.1 hr).1
    refine ⟨fun h => (by rw [h] at hr; cases hr), fun j hj => ?_⟩
    have hjn : j < n := hlt listed inv hr j hj
    refine ⟨hjn, ?_⟩
    by_cases hji : j = i
    · subst hji; unfold mOp; simp only [hi]; exact ⟨hy, H⟩
    · obtain ⟨hjun, oj, hoj, hall⟩ := mem_ready.1 hj
      have hnot : ∀ e ∈ oj.after, Region.binds md e = true → e.on ≠ i := fun e he hb heq => by
        have h1 := hall e he hb
        rw [heq, getD_both hun] at h1
        cases h1
      have h2 := mOp_put (K := wpAnyM P md ops M w n L f ((listed.setIfInBounds i true).setIfInBounds j true)) hoj (hfree j oj hoj hji hjun hnot) (fun cs b => hsel i oi cs b hi) (fun cs b => hsel j oj cs b hoj) hy
        (fun v T hv => ((H v T hv).2 j (ready_mono hj hji)).2)
      have hfree' : ∀ k ok, ops[k]? = some ok → k ≠ i → (listed.setIfInBounds j true).getD k true = false →
          (∀ e ∈ ok.after, Region.binds md e = true → e.on ≠ i) → oi.apart ops ok = true := fun k ok hk hki hun hno => by
        refine hfree k ok hk hki ?_ hno
        by_cases hjk : j = k
        · subst hjk; exact hjun
        · rw [getD_set_ne true hjk] at hun; exact hun
      refine mOp_mono (fun a' S' h3 => ih (listed.setIfInBounds j true) a' S' (inv.set hj hjn) hfree' (ready_mono hr (Ne.symm hji)) h3.1 ?_) h2
      rw [Array.setIfInBounds_comm _ _ hji]
      exact h3.2

theorem wpAnyM_lex {n : Nat} {Lq : Act → (World → Prop) → Prop} {B : Array Bool → Prop} {lex : Nat → Nat → Array Bool → Bool}
    (h0B : ∀ k listed, lex 0 k listed = true → k = n → B listed) (h1B : ∀ f k listed, lex (f + 1) k listed = true → (Region.ready md ops listed).contains k = true ∧ Region.free md ops listed k = true ∧ lex f (k + 1) (listed.setIfInBounds k true) = true)
    (hsel : Region.noSelect ops = true) (hlt : ∀ i, i < n → ∀ listed, HeadInv md ops n listed → i ∈ Region.ready md ops listed → ∀ j ∈ Region.ready md ops listed, j < n)
    (hdone : ∀ listed, B listed → ∀ j ∈ Region.ready md ops listed, n ≤ j) :
    ∀ (l : List Oper) (k : Nat) (listed : Array Bool) (a : Act) (S : World → Prop), (∀ j, j < l.length → l[j]? = ops[k + j]?) → k + l.length = n → HeadInv md ops n listed →
    lex l.length k listed = true → wpMk P ops M w Lq l a S →
    wpAnyM P md ops M w n (fun listed' a' S' => B listed' ∧ Lq a' S') l.length listed a S
  | [], k, listed, a, S, _, hk, _, hB, h => by
    have : k = n := by simpa using hk
    exact ⟨h0B k listed (by simpa using hB) this, h⟩
  | o :: l, k, listed, a, S, hl, hk, inv, hB, h => by
    have h0 : ops[k]? = some o := by simpa using (hl 0 (by simp)).symm
    obtain ⟨hr, hf, hB'⟩ := h1B _ _ _ hB
    have hkn : k < n := by simp only [List.length_cons] at hk; omega
    have hr' : k ∈ Region.ready md ops listed := by simpa using hr
    exact wpAnyM_first h0 (Region.noSelect_spec hsel) (hlt k hkn) (fun listed' a' S' hL => hdone _ hL.1) l.length listed a S inv (Region.free_spec h0 hf) hr' h.1
      (fun v T hv => wpAnyM_lex h0B h1B hsel hlt hdone l (k + 1) _ _ _ (fun j hj => by have := hl (j + 1) (by simp; omega); simpa [Nat.add_assoc, Nat.add_comm 1 j] using this) (by simp only [List.length_cons] at hk; omega) (inv.set hr' hkn) hB' (h.2 v T hv))

/-- The head once, in the text's order; then the tail as it stands. -/
theorem wp_region_mk {id : Nat} {Q : Exit → Act → World → Prop} {a : Act} {l : List Oper} (n : Nat) (M : FuncId → Array Value → Value → World → Prop) (hm : P.follows .mixedOrders = true) (hB : Region.lexTailB .any l.toArray n = true)
    (h : wpMk P l.toArray M w (fun a' S => ∀ x, Up w x → S x → wpList P l.toArray Q (l.drop n) a' x) (l.take n) a (fun _ => True)) : (Code.region id l.toArray true).wp P Q a w := by
  simp only [Region.lexTailB, Bool.and_eq_true, decide_eq_true_eq] at hB
  obtain ⟨⟨⟨⟨hsel, hn⟩, hs⟩, hc⟩, hlex⟩ := hB
  have hn' : n < l.length := by simpa using hn
  have htl : (l.take n).length = n := by simp; omega
  have hdl : (l.drop n).length = l.toArray.size - n := by simp
  have inv0 : HeadInv .any l.toArray n (Array.replicate l.toArray.size false) :=
    ⟨by simp, fun j oj _ hl => (by rw [getD_replicate_false] at hl; cases hl), fun t _ ht => getD_in (by simpa using ht) (getD_replicate_false _ _)⟩
  have H := wpAnyM_lex (md := .any) (n := n) (B := fun listed => Region.seqB .any l.toArray (l.toArray.size - n) n listed = true) (lex := Region.lexHead .any l.toArray (l.toArray.size - n))
    (fun k listed h1 h2 => by subst h2; simpa [Region.lexHead] using h1) (fun f k listed h1 => by
      simp only [Region.lexHead, Bool.and_eq_true] at h1; exact ⟨h1.1.1, h1.1.2, h1.2⟩) hsel
    (fun i hin listed inv hr j hj => by
      rcases Nat.lt_or_ge j n with h | h
      · exact h
      · exact absurd hj (tail_waits hs hc hn inv _ i rfl hin (mem_ready.1 hr).1 j h))
    (fun listed h1 => seqB_ready h1) (l.take n) 0 _ a _ (fun j hj => by
    have hj' : j < n := by rw [htl] at hj; exact hj
    simp [hj']) (by simpa using htl) inv0 (by rw [htl]; exact hlex) h
  refine wp_region_any hm ?_
  have := wpAny_of_headM (Q' := Q) (g := l.toArray.size - n) (fun listed a' S x hx hS _ hL => by
    have := wpAny_of_seq (md := .any) (Q' := Q) (l.drop n) n listed a' x (fun j => by simp [List.getElem?_drop]) (by rw [hdl]; exact hL.1) (hL.2 x hx hS)
    rwa [hdl] at this) _ _ _ _ { w with drawn := w.drawn + 1 } (Up.refl w).drew trivial (fun _ _ _ _ => trivial) H
  rw [htl, show n + (l.toArray.size - n) = l.toArray.size by omega] at this
  exact this

/-- The whole region. -/
theorem wp_region_mk_all {id : Nat} {Q : Exit → Act → World → Prop} {a : Act} {l : List Oper} (M : FuncId → Array Value → Value → World → Prop) (hm : P.follows .mixedOrders = true) (hB : Region.lexB .any l.toArray = true)
    (h : wpMk P l.toArray M w (fun a' S => ∀ x, Up w x → S x → Q .normal a' x) l a (fun _ => True)) : (Code.region id l.toArray true).wp P Q a w := by
  simp only [Region.lexB, Bool.and_eq_true] at hB
  obtain ⟨hsel, hlex⟩ := hB
  have hsz : l.length = l.toArray.size := by simp
  have inv0 : HeadInv .any l.toArray l.length (Array.replicate l.toArray.size false) :=
    ⟨by simp, fun j oj _ hl => (by rw [getD_replicate_false] at hl; cases hl), fun t h1 ht => (by simp at ht; omega)⟩
  have H := wpAnyM_lex (md := .any) (n := l.length) (B := fun listed => Region.ready .any l.toArray listed = []) (lex := Region.lexFrom .any l.toArray)
    (fun k listed h1 h2 => by simpa [Region.lexFrom] using h1) (fun f k listed h1 => by
      simp only [Region.lexFrom, Bool.and_eq_true] at h1; exact ⟨h1.1.1, h1.1.2, h1.2⟩) hsel
    (fun i hin listed inv hr j hj => by
      obtain ⟨_, oj, hoj, _⟩ := mem_ready.1 hj
      have := (Array.getElem?_eq_some_iff.1 hoj).1
      simpa using this)
    (fun listed h1 j hj => by rw [h1] at hj; cases hj) l 0 _ a _ (fun j hj => by simp) (by simp) inv0 (by rw [hsz]; simpa using hlex) h
  refine wp_region_any hm ?_
  have := wpAny_of_headM (Q' := Q) (g := 0) (fun listed a' S x hx hS _ hL => ⟨hL.1, hL.2 x hx hS⟩) _ _ _ _ { w with drawn := w.drawn + 1 } (Up.refl w).drew trivial (fun _ _ _ _ => trivial) H
  rw [hsz, Nat.add_zero] at this
  exact this

/-! ### One operation at a time -/

/-- A continuation that asks less of the facts. -/
def AntiS (L : Act → (World → Prop) → Prop) : Prop := ∀ a S T, (∀ x, Up w x → T x → S x) → L a S → L a T
theorem wpMk_anti {L : Act → (World → Prop) → Prop} (hL : AntiS (w := w) L) : ∀ (l : List Oper) (a : Act) (S T : World → Prop), (∀ x, Up w x → T x → S x) → wpMk P ops M w L l a S → wpMk P ops M w L l a T
  | [], a, S, T, h, hh => hL a S T h hh
  | o :: l, a, S, T, h, hh => ⟨hh.1, fun v U hv => wpMk_anti hL l _ _ _ (fun x hx ⟨h1, h2⟩ => ⟨h x hx h1, h2⟩) (hh.2 v U hv)⟩
theorem anti_post {F : Act → World → Prop} : AntiS (w := w) (fun a' S => ∀ x, Up w x → S x → F a' x) := fun a S T h hh x hx hT => hh x hx (h x hx hT)

theorem wpMk_nil {L : Act → (World → Prop) → Prop} {a : Act} {S : World → Prop} (h : L a S) : wpMk P ops M w L [] a S := h

/-- Any operation that yields a value of which R is known. -/
theorem wpMk_any {L : Act → (World → Prop) → Prop} (hL : AntiS (w := w) L) {o : Oper} {rest : List Oper} {a : Act} {S : World → Prop} (R : Value → World → Prop) (hR : ∀ v x y, R v x → Up x y → R v y)
    (hw : Region.wanted o (yielded ops a.tmps) = true) (hrun : ∀ x, Up w x → ∃ v x', (execOp a.eval o).run P x = .ok (.value v) x' ∧ Up x x' ∧ R v x')
    (h : ∀ v, (∃ y, Up w y ∧ R v y) → wpMk P ops M w L rest (a.put o.dst v) (fun y => S y ∧ R v y)) : wpMk P ops M w L (o :: rest) a S := by
  have key : ∀ v y, SPM P M w o a v y → R v y := fun v y ⟨x, x', h1, h2, h3⟩ => by
    obtain ⟨v', x1, hr, hu, hv⟩ := hrun x h1
    rw [hr] at h2
    obtain ⟨rfl, rfl⟩ := h2
    exact hR _ _ _ hv h3
  refine ⟨fun _ x hx => ?_, fun v T hv => ?_⟩
  · obtain ⟨v', x1, hr, hu, _⟩ := hrun x hx
    rw [hr]; exact hu
  · unfold mRes at hv
    rw [if_pos hw] at hv
    obtain ⟨⟨y, hy, hs⟩, rfl⟩ := hv
    exact wpMk_anti hL _ _ _ _ (fun x _ ⟨h1, h2⟩ => ⟨h1, key _ _ h2⟩) (h v ⟨y, hy, key _ _ hs⟩)

/-- A call. -/
theorem wpMk_enter {L : Act → (World → Prop) → Prop} (hL : AntiS (w := w) L) {o : Oper} {rest : List Oper} {a : Act} {S : World → Prop} (f : FuncId) (args : Array Value) (hK : ∀ v x y, M f args v x → Up x y → M f args v y)
    (hw : Region.wanted o (yielded ops a.tmps) = true) (hrun : ∀ x, (execOp a.eval o).run P x = .ok (.enter f args) x)
    (hc : ∀ x, Up w x → Calls P f args x fun e x' => ∃ v, e = .returned v ∧ Up x x' ∧ M f args v x')
    (h : ∀ v, (∃ y, Up w y ∧ M f args v y) → wpMk P ops M w L rest (a.put o.dst v) (fun y => S y ∧ M f args v y)) : wpMk P ops M w L (o :: rest) a S := by
  have key : ∀ v y, SPM P M w o a v y → M f args v y := fun v y ⟨x, x', h1, h2, h3⟩ => by
    rw [hrun x] at h2
    exact hK _ _ _ h2.2 h3
  refine ⟨fun _ x hx => ?_, fun v T hv => ?_⟩
  · rw [hrun x]; exact ⟨Up.refl x, hc x hx⟩
  · unfold mRes at hv
    rw [if_pos hw] at hv
    obtain ⟨⟨y, hy, hs⟩, rfl⟩ := hv
    exact wpMk_anti hL _ _ _ _ (fun x _ ⟨h1, h2⟩ => ⟨h1, key _ _ h2⟩) (h v ⟨y, hy, key _ _ hs⟩)

/-- A new variable. -/
theorem wpMk_alloc {L : Act → (World → Prop) → Prop} (hL : AntiS (w := w) L) {o : Oper} {rest : List Oper} {a : Act} {S : World → Prop} (cs : Array Value) (t : TypeId)
    (hw : Region.wanted o (yielded ops a.tmps) = true) (hrun : ∀ x, (execOp a.eval o).run P x = .ok (.value (.pointer (some ⟨x.heap.size, 0, none⟩))) (x.alloc (.cells cs t (0, 0))))
    (h : ∀ b, w.heap.size ≤ b → wpMk P ops M w L rest (a.put o.dst (.pointer (some ⟨b, 0, none⟩))) (fun y => S y ∧ y.heap[b]? = some (.cells cs t (0, 0)))) : wpMk P ops M w L (o :: rest) a S := by
  refine wpMk_any hL (fun v y => ∃ b, v = .pointer (some ⟨b, 0, none⟩) ∧ w.heap.size ≤ b ∧ y.heap[b]? = some (.cells cs t (0, 0))) (fun v x y ⟨b, h1, h2, h3⟩ hu => ⟨b, h1, h2, by rw [hu.heap b (Array.getElem?_eq_some_iff.1 h3).1]; exact h3⟩) hw
    (fun x hx => ⟨_, _, hrun x, (Up.refl x).alloc _, x.heap.size, rfl, hx.size, heap_alloc_new x _⟩) (fun v ⟨y, _, b, h1, h2, _⟩ => ?_)
  subst h1
  refine wpMk_anti hL _ _ _ _ (fun x _ ⟨h3, b', h4, h5, h6⟩ => ?_) (h b h2)
  cases h4
  exact ⟨h3, h6⟩

/-- Operations that read, one at a time, by the tactics of the quiet walk. -/
def noEnter (o : Oper) : Bool := match o.op with
  | .move _ | .assign _ | .pick _ _ _ | .build _ _ | .load _ _ | .binOp _ _ _ _ _ | .unOp _ _ _ | .convert _ _ _ | .slice _ _ _ _ _ | .fieldAddr _ _ _ | .field _ _ _ | .indexAddr _ _ _ | .index _ _ _ | .extract _ _ => true
  | .call c => match c.callee with
    | .builtin .len => true
    | _ => false
  | _ => false
theorem noEnter_spec {o : Oper} (h : noEnter o = true) (e : Operand → Value) (x : World) (f : FuncId) (args : Array Value) (x1 : World) : (execOp e o).run P x ≠ .ok (.enter f args) x1 := by
  have key : ∀ s : Sem Value, (do pure (Next.value (← s)) : Sem Next).run P x ≠ .ok (.enter f args) x1 := fun s => by
    rw [Sem.run_bind]
    cases s.run P x with
    | ok v x2 => simp [Sem.run_pure]
    | halt _ _ => simp [Result.andThen]
  unfold noEnter at h
  unfold execOp
  split at h <;> rename_i ho <;> simp only [ho] <;> first | exact key _ | skip
  · simp [Sem.run_pure]
  · simp [Sem.run_pure]
  · rw [Sem.run_bind]
    generalize Sem.run P _ x = r
    cases r <;> simp [Result.andThen, Sem.run_pure]
  · split at h
    · rename_i hb
      simp only [resolve, hb, invoke, builtin, Sem.run_bind, Sem.run_pure, Result.andThen_ok]
      intro hc
      revert hc
      generalize Sem.run P _ x = r
      cases r <;> simp [Result.andThen]
    · cases h
  · cases h

theorem wpMk_quiet {L : Act → (World → Prop) → Prop} (hL : AntiS (w := w) L) {o : Oper} {rest : List Oper} {a : Act} {S : World → Prop} (hn : noEnter o = true)
    (h : wpQuiet P ops (fun x => ∃ i : Ext w, x = i.w) (fun a' => wpMk P ops M w L rest a' S) [o] a) : wpMk P ops M w L (o :: rest) a S := by
  unfold wpQuiet at h
  by_cases hw : Region.wanted o (yielded ops a.tmps) = true
  · rw [if_pos hw] at h
    obtain ⟨u, h1, h2⟩ := h
    have hrun : ∀ x, Up w x → (execOp a.eval o).run P x = .ok (.value u) x ∨ ((execOp a.eval o).run P x = .ok .skip x ∧ u = undef) := fun x hx => by
      have h3 := h1 x ⟨⟨x, hx⟩, rfl⟩
      unfold Oper.quietAt at h3
      have h4 := noEnter_spec (P := P) hn a.eval x
      generalize (execOp a.eval o).run P x = r at *
      cases r with
      | ok n x1 =>
        cases n with
        | value v => obtain ⟨rfl, rfl⟩ := h3; exact .inl rfl
        | skip => obtain ⟨rfl, rfl⟩ := h3; exact .inr ⟨rfl, rfl⟩
        | enter f args => exact absurd rfl (h4 f args x1)
        | _ => exact absurd h3 (by simp [Oper.quietUpon])
      | halt _ _ => exact absurd h3 (by simp [Oper.quietUpon])
    have key : ∀ v y, SPM P M w o a v y → v = u := fun v y ⟨x, x', g1, g2, g3⟩ => by
      rcases hrun x g1 with hr | ⟨hr, rfl⟩ <;> rw [hr] at g2
      · exact g2.1.symm
      · exact g2.1
    refine ⟨fun _ x hx => ?_, fun v T hv => ?_⟩
    · rcases hrun x hx with hr | ⟨hr, rfl⟩ <;> rw [hr] <;> exact Up.refl x
    · unfold mRes at hv
      rw [if_pos hw] at hv
      obtain ⟨⟨y, hy, hs⟩, rfl⟩ := hv
      obtain rfl := key _ _ hs
      exact wpMk_anti hL _ _ _ _ (fun x _ h3 => h3.1) h2
  · rw [if_neg hw] at h
    refine ⟨fun hw' => absurd hw' hw, fun v T hv => ?_⟩
    unfold mRes at hv
    rw [if_neg hw] at hv
    obtain ⟨rfl, rfl⟩ := hv
    exact wpMk_anti hL _ _ _ _ (fun x _ h3 => h3.1) h
end
end Go.Proofs.YtahlecmlhdikjaaDoor
end

section
namespace Go.Proofs.YtahlecmlhdikjaaDoor
open Go.ChangeShapes Go.WideShapes Go.ChangeAt Go.RowKit
set_option linter.unusedVariables false
set_option linter.unusedSimpArgs false

theorem own_up' {w w' : World} {base n k : Nat} {e : TypeId} {v : Value} {xs : List Value} (h : w.ownsRow base e k v n xs) (u : Up w w') : w'.ownsRow base e k v n xs := by
  refine ⟨h.1, ?_⟩
  rcases h.2 with h0 | ⟨g, cap, cur, hv, hb, hg, hr⟩
  · exact .inl h0
  · exact .inr ⟨g, cap, cur, hv, hb, (u.heap g (Array.getElem?_eq_some_iff.1 hg).1).trans hg, hr⟩
/-- A store into a block of another type leaves the row as it is. -/
theorem own_far {w : World} {base n k b : Nat} {e t : TypeId} {v : Value} {xs : List Value} {cs : Array Value} (h : w.ownsRow base e k v n xs) (hb : w.heap[b]? = some (.cells cs t (0, 0))) (hne : t ≠ e) (o : Nat) (u : Value) : (w.setCell ⟨b, o, none⟩ u).ownsRow base e k v n xs := by
  refine ⟨h.1, ?_⟩
  rcases h.2 with h0 | ⟨g, cap, cur, hv, hb', hg, hr⟩
  · exact .inl h0
  · refine .inr ⟨g, cap, cur, hv, hb', ?_, hr⟩
    have hgb : b ≠ g := fun e => by subst e; rw [hb] at hg; cases hg; exact hne rfl
    simp only [World.setCell, Array.getElem?_modify, hgb, if_false]
    exact hg
theorem set_heap {w : World} {b o : Nat} {cs : Array Value} {t : TypeId} (h : w.heap[b]? = some (.cells cs t (0, 0))) (u : Value) : (w.setCell ⟨b, o, none⟩ u).heap[b]? = some (.cells (cs.setIfInBounds o u) t (0, 0)) := by
  simp [World.setCell, Array.getElem?_modify, h]
theorem own_from {w : World} {base n k : Nat} {e : TypeId} {v : Value} {xs : List Value} (h : w.ownsRow base e k v n xs) (B : Nat) (hB : B ≤ base) : w.ownsRow B e k v n xs := by
  refine ⟨h.1, ?_⟩
  rcases h.2 with h0 | ⟨g, cap, cur, hv, hb, hr⟩
  · exact .inl h0
  · exact .inr ⟨g, cap, cur, hv, by omega, hr⟩

theorem wpMk_append {P : Program} {ops : Array Oper} {w : World} {M : FuncId → Array Value → Value → World → Prop} {L : Act → (World → Prop) → Prop} (hL : AntiS (w := w) L) {o : Oper} {rest : List Oper} {a : Act} {S : World → Prop} (s x : Operand) (t : TypeId)
    (ho : o.op = .call { callee := .builtin .append, args := #[s, x], argTypes := #[t, t] })
    (e : TypeId) (i : TypeInfo) (z : Value) (size bytes : Nat) (ht : P.underlying t = some (.slice e)) (hi : P.info? e = some i) (hz : i.zero = some z)
    (hsize : i.size = size) (hby : i.bytes = bytes) (hzs : z.cells.size = size) (hsz : 0 < size)
    (hs : a.eval s = .slice none 0 0) (xv : Value) (m : Nat) (f : Nat → Nat → Value) (hxv : a.eval x = xv) (hx : SlAt w xv m size f) (h1 : ∀ i j, i < m → j < size → (f i j).oneCell' = true)
    (h63 : m ≤ maxLen) (hbytes : m * bytes ≤ 140737488355328) (hw : Region.wanted o (yielded ops a.tmps) = true)
    (h : ∀ vb vd, (∃ y, Up w y ∧ y.ownsRow w.heap.size e size (.slice vb m vd) m (flat f m size)) → wpMk P ops M w L rest (a.put o.dst (.slice vb m vd)) (fun y => S y ∧ y.ownsRow w.heap.size e size (.slice vb m vd) m (flat f m size))) : wpMk P ops M w L (o :: rest) a S := by
  refine wpMk_any hL (fun v y => y.ownsRow w.heap.size e size v m (flat f m size)) (fun v x y h hu => own_up' h hu) hw (fun y hy => ?_) (fun v hv => ?_)
  · obtain ⟨v', w', hrun, h2, h3, h4, h5⟩ := run_append_sl (P := P) y y.heap.size t o.type e i z size bytes ht hi hz hsize hby hzs hsz (.slice none 0 0) 0 [] (World.ownsRow_nil _ _ _ _) xv m f (hx.up hy) h1 (by omega) (by rw [Nat.zero_add]; exact hbytes) (Nat.le_refl _)
    refine ⟨v', w', ?_, grown_up h3 (fun k hk => by cases hk), ?_⟩
    · unfold execOp
      simp only [ho, resolve, invoke, builtin, Sem.run_bind, Sem.run_pure, Result.andThen_ok, List.map_toArray, List.map_cons, List.map_nil, hs, hxv, hrun]
    · rw [Nat.zero_add, List.nil_append] at h2
      exact own_from h2 _ hy.size
  · obtain ⟨y, hy, hv⟩ := hv
    obtain ⟨vb, vd, rfl⟩ := own_slice hv
    exact h vb vd ⟨y, hy, hv⟩
end Go.Proofs.YtahlecmlhdikjaaDoor
end
