/-
  Tighten of the program's side.
-/
import Derived.Test.YtahlecmlhdikjaaDoorGg
namespace Go.Proofs.YtahlecmlhdikjaaDoor
open Go.ChangeShapes Go.WideShapes Go.ChangeAt Go.RowKit
set_option linter.unusedVariables false
set_option linter.unusedSimpArgs false
set_option maxRecDepth 100000

/-- A constraint, its kind, an error, as results. -/
def TightR (w : World) (r : Con × Int × Int) (e : Ending) (w' : World) : Prop := (∃ v, e = .returned (.tuple #[.agg #[.int .i64 r.1.1, v, .bool r.1.2.2], .int .i64 r.2.1, .int .i64 r.2.2]) ∧ Part w' v r.1.2.1 ∧ FreshV w v) ∧ Up w w'
theorem FreshV.mono {w x : World} {v : Value} (h : FreshV x v) (hs : w.heap.size ≤ x.heap.size) : FreshV w v := fun a n c e => Nat.le_trans hs (h a n c e)
theorem part_nil (w : World) : Part w (.slice none 0 0) [] := ⟨monos_nil w, fun k hk => absurd hk (by simp), cap_nil⟩

set_option maxHeartbeats 4000000 in
theorem con_Tighten (K : Int) (v : Value) (l : List Mono) (b : Bool) (w : World) (hv : Part w v l) (hK : In64 K) (hlen : l.length ≤ 1000) :
    Calls Tryd.prog 15 #[.agg #[.int .i64 K, v, .bool b]] w (TightR w (tightF (K, l, b))) := by
  obtain ⟨r, hr⟩ : ∃ r, tightF (K, l, b) = r := ⟨_, rfl⟩
  rw [hr]
  obtain ⟨hm, hrg, hcp⟩ := hv
  have HV := Lib.hid hm
  have HRG := Lib.hid hrg
  have HK := Lib.hid hK
  obtain ⟨a, cap, rfl⟩ := hm.slice
  obtain ⟨n, hn⟩ : ∃ n, l.length = n := ⟨_, rfl⟩
  rw [hn] at HV ⊢
  obtain ⟨q, hq⟩ : ∃ q, okL l = q := ⟨_, rfl⟩
  obtain ⟨g, hg⟩ : ∃ g, gcdL l = g := ⟨_, rfl⟩
  have HVA : Hid (∀ w, MonosAt w (.slice a n cap) l → Calls Tryd.prog 18 #[.agg #[.int .i64 K, .slice a n cap, .bool b]] w fun e w' => e = .returned (.int .i64 (errOf q)) ∧ Up w w') := Lib.hid fun w h => by
    have := con_Validate K _ l b w h
    rw [hq] at this; exact this
  have HGC : Hid (∀ w, MonosAt w (.slice a n cap) l → Calls Tryd.prog 36 #[.slice a n cap] w fun e w' => e = .returned (.int .u64 g) ∧ Up w w') := Lib.hid fun w h => by
    have := con_gcd _ l w h hrg
    rw [hg] at this; exact this
  have HG0 : Hid (q = true → n ≠ 0 → 0 < g) := Lib.hid fun h h0 => by rw [← hg]; exact gcd_pos (hq.trans h) (by rw [hn]; exact h0)
  have HG1 : Hid (g ≤ 9223372036854775808) := Lib.hid (hg ▸ gcd_le l hrg)
  have HGD : Hid (∀ m ∈ l, (g : Int) ∣ m.2) := Lib.hid (hg ▸ gcd_dvd l)
  have HNZ : Hid (q = true → ∀ m ∈ l, m.2 ≠ 0) := Lib.hid fun h => by
    have key : ∀ (l : List Mono) p, okFrom p l = true → ∀ m ∈ l, m.2 ≠ 0 := by
      intro l
      induction l with
      | nil => exact fun _ _ m hm => by cases hm
      | cons m r ih =>
        intro p h x hx
        obtain ⟨_, h2, _, h4⟩ := (okFrom_cons p m r).1 h
        rcases List.mem_cons.1 hx with rfl | hx
        · exact h2
        · exact ih _ h4 x hx
    exact key l none (hq.trans h)
  have HOK : Hid (q = true → 0 < g → okL (divL l (g : Int)) = true) := Lib.hid fun h h0 => divL_ok (by omega) l none (hq.trans h) (hg ▸ gcd_dvd l)
  have HR : Hid ((if q then
      (if n = 0 then (if holdsB K b then (c0, 1, 0) else ((-1, [], false), 2, 0))
        else if b && decide (K % (g : Int) ≠ 0) then ((-1, [], false), 2, 0)
        else if b && decide ((l.getD 0 m0).2 < 0) then
          (if decide (K / (g : Int) ≠ -9223372036854775808) && negFit (divL l (g : Int)) then ((-(K / (g : Int)), negL (divL l (g : Int)), true), 0, 0) else (c0, 0, 3))
        else ((K / (g : Int), divL l (g : Int), b), 0, 0))
    else ((c0, 0, 1) : Con × Int × Int)) = r) := Lib.hid (by rw [← hr]; unfold tightF; dsimp only; rw [hq, hg, hn])
  have HNL := Lib.hid hn
  have HDN : Hid ((divL l (g : Int)).length = n) := Lib.hid (by unfold divL; rw [List.length_map, hn])
  rw [hn] at hlen
  have hnI : (n : Int) ≤ 1000 := by omega
  have HL := Lib.hid hlen
  obtain ⟨k0, k1⟩ := hK
  clear hr hm hrg hcp hn hq hg
  go_enter Tryd.func15, Tryd.ntmps15
  go_wp2_with fail
  refine (HVA.out _ (HV.out.up (((Up.refl w).alloc _).alloc _))).mono ?_
  rintro e x1 ⟨rfl, hx1⟩
  have hs := hx1.size
  rw [size_alloc, size_alloc] at hs
  have e0 : x1.cell? ⟨w.heap.size, 0, none⟩ = some (.int .i64 K) := (hx1.cell _ _ (by rw [size_alloc, size_alloc]; omega)).trans (by go_simp)
  have e1 : x1.cell? ⟨w.heap.size, 1, none⟩ = some (.slice a n cap) := (hx1.cell _ _ (by rw [size_alloc, size_alloc]; omega)).trans (by go_simp)
  have e2 : x1.cell? ⟨w.heap.size, 2, none⟩ = some (.bool b) := (hx1.cell _ _ (by rw [size_alloc, size_alloc]; omega)).trans (by go_simp)
  have d0 : x1.cell? ⟨w.heap.size + 1, 0, none⟩ = some (.int .i64 0) := (hx1.cell _ _ (by rw [size_alloc, size_alloc]; omega)).trans (by go_simp)
  have d1 : x1.cell? ⟨w.heap.size + 1, 1, none⟩ = some (.slice none 0 0) := (hx1.cell _ _ (by rw [size_alloc, size_alloc]; omega)).trans (by go_simp)
  have d2 : x1.cell? ⟨w.heap.size + 1, 2, none⟩ = some (.bool false) := (hx1.cell _ _ (by rw [size_alloc, size_alloc]; omega)).trans (by go_simp)
  have df : ∀ o, x1.frozen? ⟨w.heap.size + 1, o, none⟩ = false := fun o => (hx1.frozen _ _ (by rw [size_alloc, size_alloc]; omega)).trans (by go_simp)
  have q0 : w.heap.size < x1.heap.size := by omega
  have HRB : Hid (x1.heap[w.heap.size + 1]? = some (.cells #[.int .i64 0, .slice none 0 0, .bool false] 26 (0, 0))) := Lib.hid (by
    rw [hx1.heap _ (by rw [size_alloc, size_alloc]; omega)]
    have := heap_alloc_new (w.alloc (.cells #[.int .i64 K, .slice a n cap, .bool b] 26)) (.cells #[.int .i64 0, .slice none 0 0, .bool false] 26)
    rw [size_alloc] at this; exact this)
  have q1 : w.heap.size + 1 < x1.heap.size := by omega
  have HU1 := Lib.hid ((((Up.refl w).alloc (.cells #[.int .i64 K, .slice a n cap, .bool b] 26)).alloc (.cells #[.int .i64 0, .slice none 0 0, .bool false] 26)).trans hx1)
  have hset : ∀ (x : World) (v : Value) (o : Nat), Up w x → Up w (x.setCell ⟨w.heap.size + 1, o, none⟩ v) := fun x v o u => u.setCell (by show w.heap.size ≤ w.heap.size + 1; omega) v
  have HSET := Lib.hid hset
  have HT1 : Hid (∀ w, Calls Tryd.prog 35 #[.bool true] w fun e w' => e = .returned (.tuple #[.agg #[.int .i64 0, .slice none 0 0, .bool false], .int .i64 1, .int .i64 0]) ∧ Up w w') := Lib.hid (con_truth true)
  have HT0 : Hid (∀ w, Calls Tryd.prog 35 #[.bool false] w fun e w' => e = .returned (.tuple #[.agg #[.int .i64 (-1), .slice none 0 0, .bool false], .int .i64 2, .int .i64 0]) ∧ Up w w') := Lib.hid (con_truth false)
  clear hx1 hs hset
  cases q
  · rw [show errOf false = 1 from rfl]
    have HG : Hid (r = ((0, [], false), 0, 1)) := Lib.hid (by rw [← HR.out]; rfl)
    go_wp2
    refine bodyPost_ret (v := .tuple #[.agg #[.int .i64 0, .slice none 0 0, .bool false], .int .i64 0, .int .i64 1]) (by first | (simp [results, Tryd.results15, go_sem, d0, d1, d2]; done) | (simp [results, Tryd.results15, go_sem, d0, d1, d2, q1]; done) | go_simp) rfl ?_
    rw [HG.out]
    exact ⟨⟨_, rfl, part_nil _, fresh_nil _⟩, by repeat (first | exact HU1.out | refine HSET.out _ _ _ ?_)⟩
  rw [show errOf true = 0 from rfl]
  by_cases h0 : n = 0
  · have HG : Hid (r = if holdsB K b then ((0, [], false), 1, 0) else ((-1, [], false), 2, 0)) := Lib.hid (by rw [← HR.out]; rw [if_pos rfl, if_pos h0])
    obtain rfl := h0
    by_cases h1 : K = 0
    · have HG2 : Hid (r = ((0, [], false), 1, 0)) := Lib.hid (by rw [HG.out]; unfold holdsB; simp [h1])
      obtain rfl := h1
      go_wp2_with fail
      refine (HT1.out _).mono ?_
      rintro e x2 ⟨rfl, hx2⟩
      replace d0 := (hx2.cell _ _ q1).trans d0
      replace d1 := (hx2.cell _ _ q1).trans d1
      replace d2 := (hx2.cell _ _ q1).trans d2
      replace df := fun o => (hx2.frozen _ o q1).trans (df o)
      replace q1 := Nat.lt_of_lt_of_le q1 hx2.size
      have HU2 := Lib.hid (HU1.out.trans hx2)
      clear hx2
      try clear q0 e0 e1 e2
      go_wp2
      refine bodyPost_ret (v := .tuple #[.agg #[.int .i64 0, .slice none 0 0, .bool false], .int .i64 1, .int .i64 0]) (by first | (simp [results, Tryd.results15, go_sem, d0, d1, d2]; done) | (simp [results, Tryd.results15, go_sem, d0, d1, d2, q1]; done) | go_simp) rfl ?_
      rw [HG2.out]
      exact ⟨⟨_, rfl, part_nil _, fresh_nil _⟩, by repeat (first | exact HU2.out | refine HSET.out _ _ _ ?_)⟩
    have h1' : (K == 0) = false := by simpa using h1
    by_cases h3 : 0 < K
    · cases b
      · have HG2 : Hid (r = ((0, [], false), 1, 0)) := Lib.hid (by rw [HG.out]; unfold holdsB; simp [h3])
        go_wp2_with fail
        refine (HT1.out _).mono ?_
        rintro e x2 ⟨rfl, hx2⟩
        replace d0 := (hx2.cell _ _ q1).trans d0
        replace d1 := (hx2.cell _ _ q1).trans d1
        replace d2 := (hx2.cell _ _ q1).trans d2
        replace df := fun o => (hx2.frozen _ o q1).trans (df o)
        replace q1 := Nat.lt_of_lt_of_le q1 hx2.size
        have HU2 := Lib.hid (HU1.out.trans hx2)
        clear hx2
        try clear q0 e0 e1 e2
        go_wp2
        refine bodyPost_ret (v := .tuple #[.agg #[.int .i64 0, .slice none 0 0, .bool false], .int .i64 1, .int .i64 0]) (by first | (simp [results, Tryd.results15, go_sem, d0, d1, d2]; done) | (simp [results, Tryd.results15, go_sem, d0, d1, d2, q1]; done) | go_simp) rfl ?_
        rw [HG2.out]
        exact ⟨⟨_, rfl, part_nil _, fresh_nil _⟩, by repeat (first | exact HU2.out | refine HSET.out _ _ _ ?_)⟩
      · have HG2 : Hid (r = ((-1, [], false), 2, 0)) := Lib.hid (by rw [HG.out]; unfold holdsB; simp [h1])
        go_wp2_with fail
        refine (HT0.out _).mono ?_
        rintro e x2 ⟨rfl, hx2⟩
        replace d0 := (hx2.cell _ _ q1).trans d0
        replace d1 := (hx2.cell _ _ q1).trans d1
        replace d2 := (hx2.cell _ _ q1).trans d2
        replace df := fun o => (hx2.frozen _ o q1).trans (df o)
        replace q1 := Nat.lt_of_lt_of_le q1 hx2.size
        have HU2 := Lib.hid (HU1.out.trans hx2)
        clear hx2
        try clear q0 e0 e1 e2
        go_wp2
        refine bodyPost_ret (v := .tuple #[.agg #[.int .i64 (-1), .slice none 0 0, .bool false], .int .i64 2, .int .i64 0]) (by first | (simp [results, Tryd.results15, go_sem, d0, d1, d2]; done) | (simp [results, Tryd.results15, go_sem, d0, d1, d2, q1]; done) | go_simp) rfl ?_
        rw [HG2.out]
        exact ⟨⟨_, rfl, part_nil _, fresh_nil _⟩, by repeat (first | exact HU2.out | refine HSET.out _ _ _ ?_)⟩
    · have HG2 : Hid (r = ((-1, [], false), 2, 0)) := Lib.hid (by rw [HG.out]; unfold holdsB; simp [h1, h3])
      go_wp2_with fail
      refine (HT0.out _).mono ?_
      rintro e x2 ⟨rfl, hx2⟩
      replace d0 := (hx2.cell _ _ q1).trans d0
      replace d1 := (hx2.cell _ _ q1).trans d1
      replace d2 := (hx2.cell _ _ q1).trans d2
      replace df := fun o => (hx2.frozen _ o q1).trans (df o)
      replace q1 := Nat.lt_of_lt_of_le q1 hx2.size
      have HU2 := Lib.hid (HU1.out.trans hx2)
      clear hx2
      try clear q0 e0 e1 e2
      go_wp2
      refine bodyPost_ret (v := .tuple #[.agg #[.int .i64 (-1), .slice none 0 0, .bool false], .int .i64 2, .int .i64 0]) (by first | (simp [results, Tryd.results15, go_sem, d0, d1, d2]; done) | (simp [results, Tryd.results15, go_sem, d0, d1, d2, q1]; done) | go_simp) rfl ?_
      rw [HG2.out]
      exact ⟨⟨_, rfl, part_nil _, fresh_nil _⟩, by repeat (first | exact HU2.out | refine HSET.out _ _ _ ?_)⟩
  have HR2 : Hid ((if b && decide (K % (g : Int) ≠ 0) then ((-1, [], false), 2, 0)
          else if b && decide ((l.getD 0 m0).2 < 0) then
            (if decide (K / (g : Int) ≠ -9223372036854775808) && negFit (divL l (g : Int)) then ((-(K / (g : Int)), negL (divL l (g : Int)), true), 0, 0) else (c0, 0, 3))
          else ((K / (g : Int), divL l (g : Int), b), 0, 0)) = r) := Lib.hid (by have := HR.out; rw [if_pos rfl, if_neg h0] at this; exact this)
  have hn0 : ((n : Int) == 0) = false := by simp; omega
  have hg0 := HG0.out rfl h0
  have HGP := Lib.hid hg0
  have hN0 := Lib.hid h0
  clear h0 HR HG0 hg0 hN0
  go_wp2_with fail
  refine (HGC.out _ (HV.out.up HU1.out)).mono ?_
  rintro e x2 ⟨rfl, hx2⟩
  replace d0 := (hx2.cell _ _ q1).trans d0
  replace d1 := (hx2.cell _ _ q1).trans d1
  replace d2 := (hx2.cell _ _ q1).trans d2
  replace df := fun o => (hx2.frozen _ o q1).trans (df o)
  replace e0 := (hx2.cell _ _ q0).trans e0
  replace e1 := (hx2.cell _ _ q0).trans e1
  replace e2 := (hx2.cell _ _ q0).trans e2
  replace HRB := Lib.hid ((hx2.heap _ q1).trans HRB.out)
  replace q1 := Nat.lt_of_lt_of_le q1 hx2.size
  replace q0 := Nat.lt_of_lt_of_le q0 hx2.size
  replace HU1 := Lib.hid (HU1.out.trans hx2)
  clear hx2 HGC
  obtain ⟨Ko, hKo⟩ : ∃ x, K / (g : Int) = x := ⟨_, rfl⟩
  have HKO : Hid (In64 Ko) := Lib.hid (hKo ▸ div_in64 (by have := HGP.out; omega) HK.out)
  obtain ⟨D, hD⟩ : ∃ D, divL l (g : Int) = D := ⟨_, rfl⟩
  have HDR : Hid (Rng D) := Lib.hid (hD ▸ divL_rng (by have := HGP.out; omega) HRG.out.mem)
  have HDV : Hid (∀ x, Up w x → MonosAt x (.slice a n cap) l → Calls Tryd.prog 38 #[.agg #[.int .i64 K, .slice a n cap], .int .u64 (g : Int)] x fun e w' => ∃ v, e = .returned v ∧ Up x w' ∧ (∃ a3 c3, v = .agg #[.int .i64 Ko, .slice a3 n c3] ∧ Part w' (.slice a3 n c3) D ∧ FreshV w (.slice a3 n c3))) := Lib.hid fun x hwx h => by
    refine (con_divided K _ l g x h HK.out HRG.out (by rw [HNL.out]; exact HL.out) HGP.out HG1.out fun m hm => ⟨HGD.out m hm, HNZ.out (by first | rfl | trivial) m hm⟩).mono ?_
    rintro e w' ⟨⟨v, rfl, hv, hc, hfr⟩, hu⟩
    rw [hKo]
    rw [show (K / (g : Int), divL l (g : Int)).2 = D from hD] at hv
    obtain ⟨a3, c3, rfl⟩ := hv.slice
    have hl : D.length = n := hD ▸ HDN.out
    rw [hl] at hv hc ⊢
    rw [hl] at hfr
    exact ⟨_, rfl, hu, a3, c3, rfl, ⟨hv, HDR.out, hc⟩, hfr.mono hwx.size⟩
  have HDL : Hid (D.length = n) := Lib.hid (hD ▸ HDN.out)
  have HD0 : Hid (D.getD 0 m0 ∈ D ∧ ((D.getD 0 m0).2 < 0 ↔ (l.getD 0 m0).2 < 0)) := Lib.hid (by
    have h0 : l.length ≠ 0 := by rw [HNL.out]; simpa using hn0
    have h1 : D.length ≠ 0 := by rw [HDL.out]; simpa using hn0
    refine ⟨head_mem h1, ?_⟩
    rw [← hD, head_getD h0]
    exact (div_sign (by have := HGP.out; omega) (HGD.out _ (head_mem h0))).1)
  have HSC : Hid (∀ w v, MonosAt w v D → Calls Tryd.prog 39 #[.agg #[.int .i64 Ko, v], .int .i64 (-1)] w fun e w' => LinErrF w e w' (if decide (Ko ≠ -9223372036854775808) && negFit D then (-Ko, negL D, 0) else (0, [], 3)) ∧ Up w w') := Lib.hid fun w v h => by
    have := lin_ScaleF Ko (-1) v D w h HKO.out HDR.out ⟨by omega, by omega⟩ (by rw [HDL.out]; exact HL.out)
    rw [scale_neg HKO.out HDR.out.mem (hD ▸ HOK.out (by first | rfl | trivial) HGP.out)] at this
    exact this
  rw [hKo, hD] at HR2
  have HMU : Hid (∀ w, Calls Tryd.prog 37 #[.int .i64 K, .int .u64 (g : Int)] w fun e w' => e = .returned (.bool (decide (K % (g : Int) = 0))) ∧ Up w w') := Lib.hid fun w => con_multiple K g HK.out HGP.out HG1.out w
  clear hKo hD HDN HOK HG1 HGD HNZ HGP
  have HDB : Hid (x2.heap[w.heap.size + 1]? = some (.cells #[.int .i64 0, .slice none 0 0, .bool false] 26 (0, 0))) := HRB
  cases b
  · rw [Bool.false_and, Bool.false_and] at HR2
    go_upto_region 9 with fail
    refine wp_region_mk 8 (fun _ _ v x => ∃ a3 c3, v = .agg #[.int .i64 Ko, .slice a3 n c3] ∧ Part x (.slice a3 n c3) D ∧ FreshV w (.slice a3 n c3)) (by kernel_rfl) (by kernel_rfl) ?_
    simp only [List.take_succ_cons, List.take_zero, List.drop_succ_cons, List.drop_zero]
    iterate 3 (refine wpMk_quiet anti_post (by kernel_rfl) ?_; go_big_quiet_step (fail); refine wpQuiet_nil ?_)
    refine wpMk_enter anti_post 38 #[.agg #[.int .i64 K, .slice a n cap], .int .u64 (g : Int)] (fun v x y ⟨a3, c3, h1, h2, h3⟩ hu => ⟨a3, c3, h1, h2.up hu, h3⟩) (by kernel_rfl) (fun x => by go_simp) (fun x hx => HDV.out x (HU1.out.trans hx) (HV.out.up (HU1.out.trans hx))) ?_
    rintro v ⟨y, hy, a3, c3, rfl, hp, hfr⟩
    have HFR := Lib.hid hfr
    clear hfr
    simp only [Act.put, List.setIfInBounds_toArray, List.set_cons_succ, List.set_cons_zero]
    iterate 3 (refine wpMk_quiet anti_post (by kernel_rfl) ?_; go_big_quiet_step (fail); refine wpQuiet_nil ?_)
    refine wpMk_alloc anti_post #[.int .i64 0, .slice none 0 0, .bool false] 26 (by kernel_rfl) (fun x => by go_simp) ?_
    intro p hp
    simp only [Act.put, List.setIfInBounds_toArray, List.set_cons_succ, List.set_cons_zero]
    refine wpMk_nil ?_
    rintro x9 hx9 ⟨⟨_, a4, c4, hR1, hR, _⟩, hA⟩
    simp only [Value.agg.injEq, Array.mk.injEq, List.cons.injEq, Value.slice.injEq, true_and, and_true] at hR1
    obtain ⟨rfl, rfl⟩ := hR1
    have p0 : x9.cell? ⟨p, 0, none⟩ = some (.int .i64 0) := cell_of_row _ _ _ _ _ _ hA
    have p1 : x9.cell? ⟨p, 1, none⟩ = some (.slice none 0 0) := cell_of_row _ _ _ _ _ _ hA
    have p2 : x9.cell? ⟨p, 2, none⟩ = some (.bool false) := cell_of_row _ _ _ _ _ _ hA
    have pf : ∀ o, x9.frozen? ⟨p, o, none⟩ = false := fun o => frozen_of_row _ _ _ _ _ hA
    have psz : p < x9.heap.size := (Array.getElem?_eq_some_iff.1 hA).1
    have HPR : Hid (Part (((x9.setCell ⟨p, 0, none⟩ (.int .i64 Ko)).setCell ⟨p, 1, none⟩ (.slice a3 n c3)).setCell ⟨p, 2, none⟩ (.bool false)) (.slice a3 n c3) D) := Lib.hid (hR.set3 hA (by simp) (by simp) (by simp) (by simp) (by simp) (by simp))
    have HPA : Hid ((((x9.setCell ⟨p, 0, none⟩ (.int .i64 Ko)).setCell ⟨p, 1, none⟩ (.slice a3 n c3)).setCell ⟨p, 2, none⟩ (.bool false)).heap[p]? = some (.cells #[.int .i64 Ko, .slice a3 n c3, .bool false] 26 (0, 0))) := Lib.hid (set_heap (set_heap (set_heap hA _) _) _)
    have HDA : Hid ((((x9.setCell ⟨p, 0, none⟩ (.int .i64 Ko)).setCell ⟨p, 1, none⟩ (.slice a3 n c3)).setCell ⟨p, 2, none⟩ (.bool false)).heap[w.heap.size + 1]? = some (.cells #[.int .i64 0, .slice none 0 0, .bool false] 26 (0, 0))) := Lib.hid (by
      rw [set_heap_ne (by omega), set_heap_ne (by omega), set_heap_ne (by omega), hx9.heap _ (by omega)]
      exact HDB.out)
    have HEA : Hid ((((x9.setCell ⟨p, 0, none⟩ (.int .i64 Ko)).setCell ⟨p, 1, none⟩ (.slice a3 n c3)).setCell ⟨p, 2, none⟩ (.bool false)).cell? ⟨w.heap.size, 2, none⟩ = some (.bool false)) := Lib.hid (by
      have h1 : ∀ o, p ≠ w.heap.size := fun _ => by omega
      rw [set_cell_ne (by omega), set_cell_ne (by omega), set_cell_ne (by omega), hx9.cell _ _ (by omega)]
      exact e2)
    have HU9 : Hid (Up w (((x9.setCell ⟨p, 0, none⟩ (.int .i64 Ko)).setCell ⟨p, 1, none⟩ (.slice a3 n c3)).setCell ⟨p, 2, none⟩ (.bool false))) := Lib.hid ((((HU1.out.trans hx9).setCell (by show w.heap.size ≤ p; omega) _).setCell (by show w.heap.size ≤ p; omega) _).setCell (by show w.heap.size ≤ p; omega) _)
    have hpw : w.heap.size + 1 < p := by omega
    clear hy hA hR hx9 e0 e1 e2 d0 d1 d2 df q0 q1
    go_upto_region 10 with fail
    obtain ⟨x10, hx10⟩ : ∃ x, ((x9.setCell ⟨p, 0, none⟩ (.int .i64 Ko)).setCell ⟨p, 1, none⟩ (.slice a3 n c3)).setCell ⟨p, 2, none⟩ (.bool false) = x := ⟨_, rfl⟩
    rw [hx10] at HPR HPA HDA HEA HU9 ⊢
    clear hx10 p0 p1 p2 pf psz
    have e2 := HEA.out
    have p0 : x10.cell? ⟨p, 0, none⟩ = some (.int .i64 Ko) := cell_of_row _ _ _ _ _ _ HPA.out
    have p1 : x10.cell? ⟨p, 1, none⟩ = some (.slice a3 n c3) := cell_of_row _ _ _ _ _ _ HPA.out
    have p2 : x10.cell? ⟨p, 2, none⟩ = some (.bool false) := cell_of_row _ _ _ _ _ _ HPA.out
    have pf : ∀ o, x10.frozen? ⟨p, o, none⟩ = false := fun o => frozen_of_row _ _ _ _ _ HPA.out
    have psz : p < x10.heap.size := (Array.getElem?_eq_some_iff.1 HPA.out).1
    have d0 : x10.cell? ⟨w.heap.size + 1, 0, none⟩ = some (.int .i64 0) := cell_of_row _ _ _ _ _ _ HDA.out
    have d1 : x10.cell? ⟨w.heap.size + 1, 1, none⟩ = some (.slice none 0 0) := cell_of_row _ _ _ _ _ _ HDA.out
    have d2 : x10.cell? ⟨w.heap.size + 1, 2, none⟩ = some (.bool false) := cell_of_row _ _ _ _ _ _ HDA.out
    have df : ∀ o, x10.frozen? ⟨w.heap.size + 1, o, none⟩ = false := fun o => frozen_of_row _ _ _ _ _ HDA.out
    have q1 : w.heap.size + 1 < x10.heap.size := by omega
    have q0 : w.heap.size < x10.heap.size := by omega
    have n1 : (p = w.heap.size) = False := by simp; omega
    have n2 : (w.heap.size = p) = False := by simp; omega
    have n3 : (p = w.heap.size + 1) = False := by simp; omega
    have n4 : (w.heap.size + 1 = p) = False := by simp; omega
    have HG : Hid (r = ((Ko, D, false), 0, 0)) := Lib.hid (by rw [← HR2.out]; rfl)
    have HFP := Lib.hid (HPR.out.set3 (u0 := .int .i64 Ko) (u1 := .slice a3 n c3) (u2 := .bool false) HDA.out (by simp) (by simp) (by simp) (by simp) (by simp) (by simp))
    go_wp2
    refine bodyPost_ret (v := .tuple #[.agg #[.int .i64 Ko, .slice a3 n c3, .bool false], .int .i64 0, .int .i64 0]) (by first | (simp [results, Tryd.results15, go_sem, d0, d1, d2]; done) | (simp [results, Tryd.results15, go_sem, d0, d1, d2, q1]; done) | go_simp) rfl ?_
    rw [HG.out]
    exact ⟨⟨_, rfl, HFP.out, HFR.out⟩, by repeat (first | exact HU9.out | refine HSET.out _ _ _ ?_)⟩
  rw [Bool.true_and, Bool.true_and] at HR2
  by_cases hdv : K % (g : Int) = 0
  · rw [if_neg (by simpa using hdv)] at HR2
    rw [show decide (K % (g : Int) = 0) = true by simpa using hdv] at HMU
    clear hdv
    go_wp2_with fail
    refine (HMU.out _).mono ?_
    rintro e x3 ⟨rfl, hx3⟩
    replace d0 := (hx3.cell _ _ q1).trans d0
    replace d1 := (hx3.cell _ _ q1).trans d1
    replace d2 := (hx3.cell _ _ q1).trans d2
    replace df := fun o => (hx3.frozen _ o q1).trans (df o)
    replace e0 := (hx3.cell _ _ q0).trans e0
    replace e1 := (hx3.cell _ _ q0).trans e1
    replace e2 := (hx3.cell _ _ q0).trans e2
    replace HDB := Lib.hid ((hx3.heap _ q1).trans HDB.out)
    replace q1 := Nat.lt_of_lt_of_le q1 hx3.size
    replace q0 := Nat.lt_of_lt_of_le q0 hx3.size
    replace HU1 := Lib.hid (HU1.out.trans hx3)
    clear hx3
    go_upto_region 9 with fail
    refine wp_region_mk 8 (fun _ _ v x => ∃ a3 c3, v = .agg #[.int .i64 Ko, .slice a3 n c3] ∧ Part x (.slice a3 n c3) D ∧ FreshV w (.slice a3 n c3)) (by kernel_rfl) (by kernel_rfl) ?_
    simp only [List.take_succ_cons, List.take_zero, List.drop_succ_cons, List.drop_zero]
    iterate 3 (refine wpMk_quiet anti_post (by kernel_rfl) ?_; go_big_quiet_step (fail); refine wpQuiet_nil ?_)
    refine wpMk_enter anti_post 38 #[.agg #[.int .i64 K, .slice a n cap], .int .u64 (g : Int)] (fun v x y ⟨a3, c3, h1, h2, h3⟩ hu => ⟨a3, c3, h1, h2.up hu, h3⟩) (by kernel_rfl) (fun x => by go_simp) (fun x hx => HDV.out x (HU1.out.trans hx) (HV.out.up (HU1.out.trans hx))) ?_
    rintro v ⟨y, hy, a3, c3, rfl, hp, hfr⟩
    have HFR := Lib.hid hfr
    clear hfr
    simp only [Act.put, List.setIfInBounds_toArray, List.set_cons_succ, List.set_cons_zero]
    iterate 3 (refine wpMk_quiet anti_post (by kernel_rfl) ?_; go_big_quiet_step (fail); refine wpQuiet_nil ?_)
    refine wpMk_alloc anti_post #[.int .i64 0, .slice none 0 0, .bool false] 26 (by kernel_rfl) (fun x => by go_simp) ?_
    intro p hp
    simp only [Act.put, List.setIfInBounds_toArray, List.set_cons_succ, List.set_cons_zero]
    refine wpMk_nil ?_
    rintro x9 hx9 ⟨⟨_, a4, c4, hR1, hR, _⟩, hA⟩
    simp only [Value.agg.injEq, Array.mk.injEq, List.cons.injEq, Value.slice.injEq, true_and, and_true] at hR1
    obtain ⟨rfl, rfl⟩ := hR1
    have p0 : x9.cell? ⟨p, 0, none⟩ = some (.int .i64 0) := cell_of_row _ _ _ _ _ _ hA
    have p1 : x9.cell? ⟨p, 1, none⟩ = some (.slice none 0 0) := cell_of_row _ _ _ _ _ _ hA
    have p2 : x9.cell? ⟨p, 2, none⟩ = some (.bool false) := cell_of_row _ _ _ _ _ _ hA
    have pf : ∀ o, x9.frozen? ⟨p, o, none⟩ = false := fun o => frozen_of_row _ _ _ _ _ hA
    have psz : p < x9.heap.size := (Array.getElem?_eq_some_iff.1 hA).1
    have HPR : Hid (Part (((x9.setCell ⟨p, 0, none⟩ (.int .i64 Ko)).setCell ⟨p, 1, none⟩ (.slice a3 n c3)).setCell ⟨p, 2, none⟩ (.bool true)) (.slice a3 n c3) D) := Lib.hid (hR.set3 hA (by simp) (by simp) (by simp) (by simp) (by simp) (by simp))
    have HPA : Hid ((((x9.setCell ⟨p, 0, none⟩ (.int .i64 Ko)).setCell ⟨p, 1, none⟩ (.slice a3 n c3)).setCell ⟨p, 2, none⟩ (.bool true)).heap[p]? = some (.cells #[.int .i64 Ko, .slice a3 n c3, .bool true] 26 (0, 0))) := Lib.hid (set_heap (set_heap (set_heap hA _) _) _)
    have HDA : Hid ((((x9.setCell ⟨p, 0, none⟩ (.int .i64 Ko)).setCell ⟨p, 1, none⟩ (.slice a3 n c3)).setCell ⟨p, 2, none⟩ (.bool true)).heap[w.heap.size + 1]? = some (.cells #[.int .i64 0, .slice none 0 0, .bool false] 26 (0, 0))) := Lib.hid (by
      rw [set_heap_ne (by omega), set_heap_ne (by omega), set_heap_ne (by omega), hx9.heap _ (by omega)]
      exact HDB.out)
    have HEA : Hid ((((x9.setCell ⟨p, 0, none⟩ (.int .i64 Ko)).setCell ⟨p, 1, none⟩ (.slice a3 n c3)).setCell ⟨p, 2, none⟩ (.bool true)).cell? ⟨w.heap.size, 2, none⟩ = some (.bool true)) := Lib.hid (by
      have h1 : ∀ o, p ≠ w.heap.size := fun _ => by omega
      rw [set_cell_ne (by omega), set_cell_ne (by omega), set_cell_ne (by omega), hx9.cell _ _ (by omega)]
      exact e2)
    have HU9 : Hid (Up w (((x9.setCell ⟨p, 0, none⟩ (.int .i64 Ko)).setCell ⟨p, 1, none⟩ (.slice a3 n c3)).setCell ⟨p, 2, none⟩ (.bool true))) := Lib.hid ((((HU1.out.trans hx9).setCell (by show w.heap.size ≤ p; omega) _).setCell (by show w.heap.size ≤ p; omega) _).setCell (by show w.heap.size ≤ p; omega) _)
    have hpw : w.heap.size + 1 < p := by omega
    clear hy hA hR hx9 e0 e1 e2 d0 d1 d2 df q0 q1
    go_upto_region 10 with fail
    obtain ⟨x10, hx10⟩ : ∃ x, ((x9.setCell ⟨p, 0, none⟩ (.int .i64 Ko)).setCell ⟨p, 1, none⟩ (.slice a3 n c3)).setCell ⟨p, 2, none⟩ (.bool true) = x := ⟨_, rfl⟩
    rw [hx10] at HPR HPA HDA HEA HU9 ⊢
    clear hx10 p0 p1 p2 pf psz
    have e2 := HEA.out
    have p0 : x10.cell? ⟨p, 0, none⟩ = some (.int .i64 Ko) := cell_of_row _ _ _ _ _ _ HPA.out
    have p1 : x10.cell? ⟨p, 1, none⟩ = some (.slice a3 n c3) := cell_of_row _ _ _ _ _ _ HPA.out
    have p2 : x10.cell? ⟨p, 2, none⟩ = some (.bool true) := cell_of_row _ _ _ _ _ _ HPA.out
    have pf : ∀ o, x10.frozen? ⟨p, o, none⟩ = false := fun o => frozen_of_row _ _ _ _ _ HPA.out
    have psz : p < x10.heap.size := (Array.getElem?_eq_some_iff.1 HPA.out).1
    have d0 : x10.cell? ⟨w.heap.size + 1, 0, none⟩ = some (.int .i64 0) := cell_of_row _ _ _ _ _ _ HDA.out
    have d1 : x10.cell? ⟨w.heap.size + 1, 1, none⟩ = some (.slice none 0 0) := cell_of_row _ _ _ _ _ _ HDA.out
    have d2 : x10.cell? ⟨w.heap.size + 1, 2, none⟩ = some (.bool false) := cell_of_row _ _ _ _ _ _ HDA.out
    have df : ∀ o, x10.frozen? ⟨w.heap.size + 1, o, none⟩ = false := fun o => frozen_of_row _ _ _ _ _ HDA.out
    have q1 : w.heap.size + 1 < x10.heap.size := by omega
    have q0 : w.heap.size < x10.heap.size := by omega
    have n1 : (p = w.heap.size) = False := by simp; omega
    have n2 : (w.heap.size = p) = False := by simp; omega
    have n3 : (p = w.heap.size + 1) = False := by simp; omega
    have n4 : (w.heap.size + 1 = p) = False := by simp; omega
    obtain ⟨bl, off, s, y0, hae, m1, m2, m3, m4⟩ := HPR.out.1.elem (Up.refl x10) 0 (by rw [HDL.out]; have := hn0; simp at this; omega) HDL.out rfl
    obtain rfl := hae
    simp only [Nat.zero_mul, Nat.add_zero] at m3 m4
    have HSG : Hid (y0 < 0 ↔ (l.getD 0 m0).2 < 0) := Lib.hid (by have := HD0.out.2; rw [m2] at this; exact this)
    have hn1 : ¬ (n : Int) = 0 := by simpa using hn0
    have hn2 : (0 : Int) < (n : Int) := by omega
    have m1' : bl < x10.heap.size := m1
    clear m1 m2 HD0
    by_cases hy0 : y0 < 0
    · have HR3 : Hid ((if decide (Ko ≠ -9223372036854775808) && negFit D then ((-Ko, negL D, true), 0, 0) else ((0, [], false), 0, 3)) = r) := Lib.hid (by have h1 := HR2.out; rw [if_pos (by simpa using HSG.out.1 hy0)] at h1; exact h1)
      obtain ⟨f, hf⟩ : ∃ f, (decide (Ko ≠ -9223372036854775808) && negFit D) = f := ⟨_, rfl⟩
      rw [hf] at HR3 HSC
      have HFT := Lib.hid hf
      clear hf m3
      go_wp2_with fail
      refine (HSC.out _ _ HPR.out.1).mono ?_
      rintro e x11 ⟨⟨v5, rfl, hv5, hc5, hf5⟩, hx11⟩
      have HF5 := Lib.hid (hf5.mono (HU9.out.size))
      clear hf5
      clear m4
      replace p0 := (hx11.cell _ _ psz).trans p0
      replace p1 := (hx11.cell _ _ psz).trans p1
      replace p2 := (hx11.cell _ _ psz).trans p2
      replace pf := fun o => (hx11.frozen _ o psz).trans (pf o)
      replace d0 := (hx11.cell _ _ q1).trans d0
      replace d1 := (hx11.cell _ _ q1).trans d1
      replace d2 := (hx11.cell _ _ q1).trans d2
      replace df := fun o => (hx11.frozen _ o q1).trans (df o)
      replace HDA := Lib.hid ((hx11.heap _ q1).trans HDA.out)
      replace HPA := Lib.hid ((hx11.heap _ psz).trans HPA.out)
      replace psz := Nat.lt_of_lt_of_le psz hx11.size
      replace q1 := Nat.lt_of_lt_of_le q1 hx11.size
      have HU11 := Lib.hid (HU9.out.trans hx11)
      obtain ⟨a5, c5, rfl⟩ := hv5.slice
      clear e2 q0 hx11 HPR
      cases f
      · have HG : Hid (r = ((0, [], false), 0, 3)) := Lib.hid (by rw [← HR3.out]; rfl)
        clear hv5 hc5
        go_wp2
        refine bodyPost_ret (v := .tuple #[.agg #[.int .i64 0, .slice none 0 0, .bool false], .int .i64 0, .int .i64 3]) (by first | (simp [results, Tryd.results15, go_sem, d0, d1, d2]; done) | (simp [results, Tryd.results15, go_sem, d0, d1, d2, q1]; done) | go_simp) rfl ?_
        rw [HG.out]
        exact ⟨⟨_, rfl, part_nil _, fresh_nil _⟩, by repeat (first | exact HU11.out | refine HSET.out _ _ _ ?_ | refine Up.alloc ?_ _)⟩
      have hsl : (if (true : Bool) = true then ((-Ko, negL D, 0) : Int × List Mono × Int) else (0, [], 3)) = (-Ko, negL D, 0) := rfl
      try rw [hsl] at hv5 hc5
      try rw [hsl]
      dsimp only at hv5 hc5 ⊢
      have HG : Hid (r = ((-Ko, negL D, true), 0, 0)) := Lib.hid (by rw [← HR3.out]; rfl)
      have HP5 : Hid (Part x11 (.slice a5 (negL D).length c5) (negL D)) := Lib.hid ⟨hv5, negL_rng HDR.out.mem (Bool.and_eq_true_iff.1 HFT.out).2, hc5⟩
      have hkn : ¬ Ko = -9223372036854775808 := by have := (Bool.and_eq_true_iff.1 HFT.out).1; simpa using this
      obtain ⟨ko0, ko1⟩ := HKO.out
      have HF6 : Hid (FreshV w (.slice a5 (negL D).length c5)) := Lib.hid HF5.out
      obtain ⟨n5, hn5⟩ : ∃ m, (negL D).length = m := ⟨_, rfl⟩
      rw [hn5] at HP5 HF6
      try rw [hn5]
      clear hn5 hv5 hc5 hsl HSC HR3
      have h9 : p ≠ w.heap.size + 1 := by omega
      have HFP := Lib.hid (((HP5.out.set2 (u0 := .int .i64 (-Ko)) (u1 := .slice a5 n5 c5) HPA.out (by simp) (by simp) (by simp) (by simp) (by simp)).set3 (u0 := .int .i64 (-Ko)) (u1 := .slice a5 n5 c5) (u2 := .bool true) (c0 := .int .i64 0) (c1 := .slice none 0 0) (c2 := .bool false) (by
        rw [set_heap_ne h9, set_heap_ne h9]; exact HDA.out) (by simp) (by simp) (by simp) (by simp) (by simp) (by simp)).up ((Up.refl _).alloc (.cells #[.int .i64 (-Ko), .slice a5 n5 c5] 24)))
      clear h9
      go_wp2
      refine bodyPost_ret (v := .tuple #[.agg #[.int .i64 (-Ko), .slice a5 n5 c5, .bool true], .int .i64 0, .int .i64 0]) (by first | (simp [results, Tryd.results15, go_sem, d0, d1, d2]; done) | (simp [results, Tryd.results15, go_sem, d0, d1, d2, q1]; done) | go_simp) rfl ?_
      rw [HG.out]
      exact ⟨⟨_, rfl, HFP.out, HF6.out⟩, by repeat (first | exact HU11.out | refine HSET.out _ _ _ ?_ | refine Up.alloc ?_ _ | refine Up.setCell ?_ (by show w.heap.size ≤ p; omega) _)⟩
    have HG : Hid (r = ((Ko, D, true), 0, 0)) := Lib.hid (by have h1 := HR2.out; rw [if_neg (by simpa using fun h => hy0 (HSG.out.2 h))] at h1; exact h1.symm)
    have HFP := Lib.hid (HPR.out.set3 (u0 := .int .i64 Ko) (u1 := .slice (some ⟨bl, off, none⟩) n c3) (u2 := .bool true) HDA.out (by simp) (by simp) (by simp) (by simp) (by simp) (by simp))
    go_wp2
    refine bodyPost_ret (v := .tuple #[.agg #[.int .i64 Ko, .slice (some ⟨bl, off, none⟩) n c3, .bool true], .int .i64 0, .int .i64 0]) (by first | (simp [results, Tryd.results15, go_sem, d0, d1, d2]; done) | (simp [results, Tryd.results15, go_sem, d0, d1, d2, q1]; done) | go_simp) rfl ?_
    rw [HG.out]
    exact ⟨⟨_, rfl, HFP.out, HFR.out⟩, by repeat (first | exact HU9.out | refine HSET.out _ _ _ ?_)⟩
  have HG : Hid (r = ((-1, [], false), 2, 0)) := Lib.hid (by have h1 := HR2.out; rw [if_pos (by simpa using hdv)] at h1; exact h1.symm)
  rw [show decide (K % (g : Int) = 0) = false by simpa using hdv] at HMU
  clear hdv
  go_wp2_with fail
  refine (HMU.out _).mono ?_
  rintro e x3 ⟨rfl, hx3⟩
  replace d0 := (hx3.cell _ _ q1).trans d0
  replace d1 := (hx3.cell _ _ q1).trans d1
  replace d2 := (hx3.cell _ _ q1).trans d2
  replace df := fun o => (hx3.frozen _ o q1).trans (df o)
  replace q1 := Nat.lt_of_lt_of_le q1 hx3.size
  replace HU1 := Lib.hid (HU1.out.trans hx3)
  clear hx3 e0 e1 e2 q0
  go_wp2_with fail
  refine (HT0.out _).mono ?_
  rintro e x2 ⟨rfl, hx2⟩
  replace d0 := (hx2.cell _ _ q1).trans d0
  replace d1 := (hx2.cell _ _ q1).trans d1
  replace d2 := (hx2.cell _ _ q1).trans d2
  replace df := fun o => (hx2.frozen _ o q1).trans (df o)
  replace q1 := Nat.lt_of_lt_of_le q1 hx2.size
  have HU2 := Lib.hid (HU1.out.trans hx2)
  clear hx2
  try clear q0 e0 e1 e2
  go_wp2
  refine bodyPost_ret (v := .tuple #[.agg #[.int .i64 (-1), .slice none 0 0, .bool false], .int .i64 2, .int .i64 0]) (by first | (simp [results, Tryd.results15, go_sem, d0, d1, d2]; done) | (simp [results, Tryd.results15, go_sem, d0, d1, d2, q1]; done) | go_simp) rfl ?_
  rw [HG.out]
  exact ⟨⟨_, rfl, part_nil _, fresh_nil _⟩, by repeat (first | exact HU2.out | refine HSET.out _ _ _ ?_)⟩
end Go.Proofs.YtahlecmlhdikjaaDoor
