/-
  Add of the program's side, its first form of up to 4000 monomials (printed of LinAd).
-/
import Derived.Test.YtahlecmlhdikjaaDoorGd
namespace Go.Proofs.YtahlecmlhdikjaaDoor
open Go.ChangeShapes Go.WideShapes Go.ChangeAt Go.RowKit
set_option linter.unusedVariables false
set_option linter.unusedSimpArgs false

set_option maxHeartbeats 8000000 in
set_option maxRecDepth 100000 in
theorem lin_AddG (K K' : Int) (v v' : Value) (l l' : List Mono) (w : World) (hv : Part w v l) (hv' : Part w v' l') (hK : In64 K) (hK' : In64 K') (hlen : l.length ≤ 4000) (hlen' : l'.length ≤ 1000) :
    Calls Tryd.prog 57 #[.agg #[.int .i64 K, v], .agg #[.int .i64 K', v']] w fun e w' => LinErrF w e w' (addF K l K' l') ∧ Up w w' := by
  obtain ⟨a, cap, rfl⟩ := hv.1.slice
  obtain ⟨a', cap', rfl⟩ := hv'.1.slice
  obtain ⟨n, hn⟩ : ∃ n, l.length = n := ⟨_, rfl⟩
  obtain ⟨n', hn'⟩ : ∃ n, l'.length = n := ⟨_, rfl⟩
  have HLN : Hid (l.length + l'.length + 0 ≤ 5000) := Lib.hid (by omega)
  rw [hn] at hv hlen ⊢
  rw [hn'] at hv' hlen' ⊢
  have HV := Lib.hid hv
  have HV' := Lib.hid hv'
  obtain ⟨q, hq⟩ : ∃ q, okL l = q := ⟨_, rfl⟩
  obtain ⟨q', hq'⟩ : ∃ q, okL l' = q := ⟨_, rfl⟩
  have HVA : Hid (∀ (w : World) (hv : MonosAt w (.slice a n cap) l), Calls Tryd.prog 45 #[.agg #[.int .i64 K, .slice a n cap]] w fun e w' => e = .returned (.int .i64 (errOf q)) ∧ Up w w') := Lib.hid fun w hv => by
    have := lin_Validate K (.slice a n cap) l w hv
    rw [hq] at this
    exact this
  have HVB : Hid (∀ (w : World) (hv : MonosAt w (.slice a' n' cap') l'), Calls Tryd.prog 45 #[.agg #[.int .i64 K', .slice a' n' cap']] w fun e w' => e = .returned (.int .i64 (errOf q')) ∧ Up w w') := Lib.hid fun w hv => by
    have := lin_Validate K' (.slice a' n' cap') l' w hv
    rw [hq'] at this
    exact this
  obtain ⟨c, hc⟩ : ∃ c, wrap64 (K + K') = c := ⟨_, rfl⟩
  obtain ⟨g, hg⟩ : ∃ g, fitB (K + K') = g := ⟨_, rfl⟩
  have HPL : Hid (∀ w, Calls Tryd.prog 84 #[.int .i64 K, .int .i64 K'] w fun e w' => e = .returned (.tuple #[.int .i64 c, .bool g]) ∧ w' = w) := Lib.hid fun w => by
    have := lin_plus2 K K' hK hK' w
    rw [hc, hg] at this; exact this
  obtain ⟨ml, mf, hm⟩ : ∃ ml mf, mergeF l l' ([], g) = (ml, mf) := ⟨_, _, rfl⟩
  have HMG : Hid (mergeF l l' ([], g) = (ml, mf)) := Lib.hid hm
  have HR : Hid (addF K l K' l' = if q && q' then (if mf then (c, ml, 0) else (0, [], 3)) else (0, [], 1)) := Lib.hid (by unfold addF; rw [hq, hq', hc, hg, hm])
  obtain ⟨r, hr⟩ : ∃ r, addF K l K' l' = r := ⟨_, rfl⟩
  rw [hr] at HR ⊢
  clear hv hv' hn hn' hq hq' hc hg hm hr hK hK'
  go_enter Tryd.func57, Tryd.ntmps57
  go_wp2_with fail
  refine (HVA.out _ (HV.out.1.up ((((Up.refl w).alloc _).alloc _).alloc _))).mono ?_
  rintro e x1 ⟨rfl, hx1⟩
  have hs := hx1.size
  rw [size_alloc, size_alloc, size_alloc] at hs
  have a0 : x1.cell? ⟨w.heap.size, 0, none⟩ = some (.int .i64 K) := (hx1.cell _ _ (by rw [size_alloc, size_alloc, size_alloc]; omega)).trans (by go_simp)
  have a1 : x1.cell? ⟨w.heap.size, 1, none⟩ = some (.slice a n cap) := (hx1.cell _ _ (by rw [size_alloc, size_alloc, size_alloc]; omega)).trans (by go_simp)
  have b0 : x1.cell? ⟨w.heap.size + 1, 0, none⟩ = some (.int .i64 K') := (hx1.cell _ _ (by rw [size_alloc, size_alloc, size_alloc]; omega)).trans (by go_simp)
  have b1 : x1.cell? ⟨w.heap.size + 1, 1, none⟩ = some (.slice a' n' cap') := (hx1.cell _ _ (by rw [size_alloc, size_alloc, size_alloc]; omega)).trans (by go_simp)
  have c0 : x1.cell? ⟨w.heap.size + 1 + 1, 0, none⟩ = some (.int .i64 0) := (hx1.cell _ _ (by rw [size_alloc, size_alloc, size_alloc]; omega)).trans (by go_simp)
  have c1 : x1.cell? ⟨w.heap.size + 1 + 1, 1, none⟩ = some (.slice none 0 0) := (hx1.cell _ _ (by rw [size_alloc, size_alloc, size_alloc]; omega)).trans (by go_simp)
  have cf : ∀ o, x1.frozen? ⟨w.heap.size + 1 + 1, o, none⟩ = false := fun o => (hx1.frozen _ _ (by rw [size_alloc, size_alloc, size_alloc]; omega)).trans (by go_simp)
  have HU1 := Lib.hid (((((Up.refl w).alloc (.cells #[.int .i64 K, .slice a n cap] 24)).alloc (.cells #[.int .i64 K', .slice a' n' cap'] 24)).alloc (.cells #[.int .i64 0, .slice none 0 0] 24)).trans hx1)
  clear hx1
  have hset : ∀ (x : World) (v : Value) (o : Nat), Up w x → Up w (x.setCell ⟨w.heap.size + 1 + 1, o, none⟩ v) := fun x v o u => u.setCell (by show w.heap.size ≤ w.heap.size + 1 + 1; omega) v
  have HSET := Lib.hid hset
  clear hset
  have q0 : w.heap.size < x1.heap.size := by omega
  have q1 : w.heap.size + 1 < x1.heap.size := by omega
  have q2 : w.heap.size + 1 + 1 < x1.heap.size := by omega
  cases q
  · rw [show errOf false = 1 from rfl]
    have hr2 : r = (0, [], 1) := by rw [HR.out]; rfl
    have HR2 := Lib.hid hr2
    clear hr2
    go_wp2
    refine bodyPost_ret (v := .tuple #[.agg #[.int .i64 0, .slice none 0 0], .int .i64 1]) (by simp [results, Tryd.results57, go_sem, c0, c1]) rfl ?_
    rw [HR2.out]
    exact ⟨⟨_, rfl, monos_nil _, cap_nil, fresh_nil w⟩, by repeat (first | exact HU1.out | refine HSET.out _ _ _ ?_)⟩
  rw [show errOf true = 0 from rfl]
  go_wp2_with fail
  refine (HVB.out _ (HV'.out.1.up HU1.out)).mono ?_
  rintro e x2 ⟨rfl, hx2⟩
  have hs2 := hx2.size
  have a0' := (hx2.cell _ _ q0).trans a0
  have a1' := (hx2.cell _ _ q0).trans a1
  have b0' := (hx2.cell _ _ q1).trans b0
  have b1' := (hx2.cell _ _ q1).trans b1
  have c0' := (hx2.cell _ _ q2).trans c0
  have c1' := (hx2.cell _ _ q2).trans c1
  have cf' := fun o => (hx2.frozen _ _ q2).trans (cf o)
  replace HU1 := Lib.hid (HU1.out.trans hx2)
  have p0 : w.heap.size < x2.heap.size := by omega
  have p1 : w.heap.size + 1 < x2.heap.size := by omega
  have p2 : w.heap.size + 1 + 1 < x2.heap.size := by omega
  clear hx2 a0 a1 b0 b1 c0 c1 cf q0 q1 q2 hs hs2
  cases q'
  · rw [show errOf false = 1 from rfl]
    have hr2 : r = (0, [], 1) := by rw [HR.out]; rfl
    have HR2 := Lib.hid hr2
    clear hr2
    go_wp2
    refine bodyPost_ret (v := .tuple #[.agg #[.int .i64 0, .slice none 0 0], .int .i64 1]) (by simp [results, Tryd.results57, go_sem, c0', c1']) rfl ?_
    rw [HR2.out]
    exact ⟨⟨_, rfl, monos_nil _, cap_nil, fresh_nil w⟩, by repeat (first | exact HU1.out | refine HSET.out _ _ _ ?_)⟩
  rw [show errOf true = 0 from rfl]
  have HRR : Hid (r = if mf then (c, ml, 0) else (0, [], 3)) := Lib.hid (by rw [HR.out]; rfl)
  clear HR
  go_wp2_with fail
  refine (HPL.out _).mono ?_
  rintro e x3 ⟨rfl, hx3⟩
  replace hx3 := hx3.symm
  subst hx3
  have HAD := Lib.hid (AddAt.new x2 c g)
  go_wp2_with fail
  refine (lin_merge w _ _ l l' HV.out HV'.out _ ((HU1.out.alloc _).alloc _) (x2.heap.size + 1 + 1) x2.heap.size (x2.heap.size + 1) (by omega) (by omega) (by omega) c ([], g) HAD.out HLN.out).mono ?_
  rintro e x4 ⟨rfl, hS, hT⟩
  rw [HMG.out] at hS
  have HU4 := Lib.hid (UpTwo.up ((HU1.out.alloc _).alloc _) (by omega) (by omega) (by omega) hT)
  obtain ⟨⟨n4, a4, cap4, hO⟩, hF, _, _⟩ := hS
  dsimp only at hO hF
  have d0 : x4.cell? ⟨w.heap.size + 1 + 1, 0, none⟩ = some (.int .i64 0) := ((hT.cell _ _ (by omega) (by omega) (by omega)).trans ((((Up.refl x2).alloc _).alloc _).cell _ _ p2)).trans c0'
  have d1 : x4.cell? ⟨w.heap.size + 1 + 1, 1, none⟩ = some (.slice none 0 0) := ((hT.cell _ _ (by omega) (by omega) (by omega)).trans ((((Up.refl x2).alloc _).alloc _).cell _ _ p2)).trans c1'
  have df : ∀ o, x4.frozen? ⟨w.heap.size + 1 + 1, o, none⟩ = false := fun o => by
    have h1 := hT.block (w.heap.size + 1 + 1) (by omega) (by omega) (by omega)
    have h2 := ((((Up.refl x2).alloc (.cells #[.int .i64 c, .slice none 0 0] 24)).alloc (.cells #[.bool g] 4)).frozen _ o p2).trans (cf' o)
    unfold World.frozen? at h2 ⊢
    rw [h1]; exact h2
  have z0 : x4.cell? ⟨x2.heap.size + 1, 0, none⟩ = some (.bool mf) := cell_of_row _ _ _ _ _ _ hF
  obtain ⟨o0, o1, of, ol⟩ := hO.cells
  have hs4 := hO.2.2.2.2
  have y0 : x2.heap.size < x4.heap.size := by omega
  have y1 : x2.heap.size + 1 < x4.heap.size := by omega
  have y2 : w.heap.size + 1 + 1 < x4.heap.size := by omega
  have HO := Lib.hid hO
  have HP2 := Lib.hid p2
  clear hT hF hO a0' a1' b0' b1' c0' c1' cf' HAD
  cases mf
  · have hr2 : r = (0, [], 3) := by rw [HRR.out]; rfl
    have HR2 := Lib.hid hr2
    clear hr2
    go_wp2
    refine bodyPost_ret (v := .tuple #[.agg #[.int .i64 0, .slice none 0 0], .int .i64 3]) (by simp [results, Tryd.results57, go_sem, d0, d1]) rfl ?_
    rw [HR2.out]
    exact ⟨⟨_, rfl, monos_nil _, cap_nil, fresh_nil w⟩, by repeat (first | exact HU4.out | refine HSET.out _ _ _ ?_)⟩
  · have hr2 : r = (c, ml, 0) := by rw [HRR.out]; rfl
    have HR2 := Lib.hid hr2
    clear hr2
    go_wp2
    refine bodyPost_ret (v := .tuple #[.agg #[.int .i64 c, .slice a4 n4 cap4], .int .i64 0]) (by simp [results, Tryd.results57, go_sem, d0, d1]) rfl ?_
    rw [HR2.out]
    refine ⟨⟨.slice a4 n4 cap4, rfl, ?_, own_cap HO.out.2.2.1, own_fresh HO.out.2.2.1 (by have := HP2.out; omega)⟩, by repeat (first | exact HU4.out | refine HSET.out _ _ _ ?_)⟩
    have hoo := HO.out
    have hle : n4 = ml.length := hoo.1
    show SlAt _ _ ml.length 2 _
    rw [← hle]
    refine SlAt.of_own (base := x2.heap.size + 1 + 1) (e := 56) (xs := monoCells ml) ?_ (own_max hoo.2.2.1) (fun i j hi hj => monoCells_get _ i j (by omega) hj)
    repeat (first | exact hoo.2.2.1 | refine ownsRow_setCell_below ?_ (by show w.heap.size + 1 + 1 < x2.heap.size + 1 + 1; omega) _)

end Go.Proofs.YtahlecmlhdikjaaDoor
