/-
  Negate of the program's side.
-/
import Derived.Test.YtahlecmlhdikjaaDoorGf

namespace Go.Proofs.YtahlecmlhdikjaaDoor
open Go.ChangeShapes Go.WideShapes Go.ChangeAt Go.RowKit
set_option linter.unusedVariables false
set_option linter.unusedSimpArgs false
set_option maxRecDepth 100000

theorem cons_nil (w : World) : ConsAt w (.slice none 0 0) [] := ⟨fun _ => undef, SlAt.nil w 3 _, fun i hi => absurd hi (by simp)⟩
theorem cons_one {x : World} {K : Int} {v : Value} {l : List Mono} {e : Bool} (t : TypeId) (h : Part x v l) (hK : In64 K) :
    ConsAt (x.alloc (.cells #[.int .i64 K, v, .bool e] t)) (.slice (some ⟨x.heap.size, 0, none⟩) 1 1) [(K, l, e)] := by
  refine ⟨fun _ => v, ⟨⟨_, _, rfl, fun h => (by cases h), fun a ha _ => ?_⟩, by show 1 ≤ 9223372036854775807; omega⟩, fun i hi => ?_⟩
  · cases ha
    refine ⟨rfl, by show x.heap.size < _; rw [size_alloc]; omega, fun i j hi hj => ?_⟩
    have hi0 : i = 0 := by simp at hi; omega
    subst hi0
    rcases (by omega : j = 0 ∨ j = 1 ∨ j = 2) with rfl | rfl | rfl <;> exact cell_of_row _ _ _ _ _ _ (heap_alloc_new x _)
  · have hi0 : i = 0 := by simp at hi; omega
    subst hi0
    exact ⟨h.up ((Up.refl x).alloc _), hK⟩
theorem cons_two {x : World} {K K' : Int} {v v' : Value} {l l' : List Mono} {e e' : Bool} (t : TypeId) (h : Part x v l) (hK : In64 K) (h' : Part x v' l') (hK' : In64 K') :
    ConsAt (x.alloc (.cells #[.int .i64 K, v, .bool e, .int .i64 K', v', .bool e'] t)) (.slice (some ⟨x.heap.size, 0, none⟩) 2 2) [(K, l, e), (K', l', e')] := by
  refine ⟨fun i => if i = 0 then v else v', ⟨⟨_, _, rfl, fun h => (by cases h), fun a ha _ => ?_⟩, by show 2 ≤ 9223372036854775807; omega⟩, fun i hi => ?_⟩
  · cases ha
    refine ⟨rfl, by show x.heap.size < _; rw [size_alloc]; omega, fun i j hi hj => ?_⟩
    rcases (by simp at hi; omega : i = 0 ∨ i = 1) with rfl | rfl <;>
    rcases (by omega : j = 0 ∨ j = 1 ∨ j = 2) with rfl | rfl | rfl <;> exact cell_of_row _ _ _ _ _ _ (heap_alloc_new x _)
  · rcases (by simp at hi; omega : i = 0 ∨ i = 1) with rfl | rfl
    · exact ⟨h.up ((Up.refl x).alloc _), hK⟩
    · exact ⟨h'.up ((Up.refl x).alloc _), hK'⟩
theorem negL_rng {l : List Mono} (h : ∀ m ∈ l, In64 m.2) (hf : negFit l = true) : Rng (negL l) := fun k hk => by
  have : (negL l).getD k m0 ∈ negL l := by
    rw [List.getD_eq_getElem?_getD, List.getElem?_eq_getElem hk]; exact List.getElem_mem hk
  obtain ⟨m, hm, he⟩ := List.mem_map.1 this
  rw [← he]
  have h1 := h m hm
  unfold negFit at hf
  have h2 := List.all_eq_true.1 hf m hm
  simp at h2
  unfold In64 at h1 ⊢
  dsimp only
  omega
theorem upNone {x y : World} (h : x.grownBy y (Value.slice none 0 0).ownBlock) : Up x y := (Up.refl x).grown h (fun g e => by cases e)
/-- A list of constraints and an error, as results. -/
def ConsErr (w : World) (r : List Con × Int) (e : Ending) (w' : World) : Prop := (∃ v, e = .returned (.tuple #[v, .int .i64 r.2]) ∧ ConsAt w' v r.1) ∧ Up w w'

set_option maxHeartbeats 4000000 in
theorem con_Negate (K : Int) (v : Value) (l : List Mono) (b : Bool) (w : World) (hv : Part w v l) (hK : In64 K) (hlen : l.length ≤ 1000) :
    Calls Tryd.prog 20 #[.agg #[.int .i64 K, v, .bool b]] w (ConsErr w (negF (K, l, b))) := by
  obtain ⟨i0, hi0, hz0, hz1, hz2⟩ := info_parts mono_info
  obtain ⟨r, hr⟩ : ∃ r, negF (K, l, b) = r := ⟨_, rfl⟩
  rw [hr]
  obtain ⟨hm, hrg, hcp⟩ := hv
  have HV := Lib.hid hm
  have HRG := Lib.hid hrg
  have HCP := Lib.hid hcp
  have HK := Lib.hid hK
  obtain ⟨k0, k1⟩ := hK
  obtain ⟨a, cap, rfl⟩ := hm.slice
  obtain ⟨n, hn⟩ : ∃ n, l.length = n := ⟨_, rfl⟩
  rw [hn] at HV HCP ⊢
  obtain ⟨q, hq⟩ : ∃ q, okL l = q := ⟨_, rfl⟩
  obtain ⟨f, hf⟩ : ∃ f, negFit l = f := ⟨_, rfl⟩
  have HF := Lib.hid hf
  have HVA : Hid (∀ w, MonosAt w (.slice a n cap) l → Calls Tryd.prog 18 #[.agg #[.int .i64 K, .slice a n cap, .bool b]] w fun e w' => e = .returned (.int .i64 (errOf q)) ∧ Up w w') := Lib.hid fun w h => by
    have := con_Validate K _ l b w h
    rw [hq] at this; exact this
  have HOP : Hid (∀ w, MonosAt w (.slice a n cap) l → Calls Tryd.prog 47 #[.agg #[.int .i64 K, .slice a n cap]] w fun e w' => LinErr e w' (if f then (-1 - K, negL l, 0) else (0, [], 3)) ∧ Up w w') := Lib.hid fun w h => by
    have := con_opposite K _ l w h HK.out hrg hlen
    unfold oppF at this
    rw [hf] at this; exact this
  have HR : Hid ((if q then (if f then (if b then (if K = -9223372036854775808 then ([], 3) else ([(K - 1, l, false), (-1 - K, negL l, false)], 0)) else ([(-1 - K, negL l, false)], 0)) else ([], 3)) else (([] : List Con), (1 : Int))) = r) := Lib.hid (by
    rw [← hr]; unfold negF; dsimp only; rw [hq, hf])
  have HSL0 : Hid (SlAt w (.slice a n cap) n 2 (monoF l)) := Lib.hid (by
    have := HV.out
    unfold MonosAt at this
    rw [hn] at this; exact this)
  have HONE : Hid (∀ i j, i < n → j < 2 → (monoF l i j).oneCell' = true) := Lib.hid (fun i j _ _ => by rcases j with _ | j <;> rfl)
  have HNL := Lib.hid hn
  rw [hn] at hlen
  clear hr hm hrg hcp hn hq hf
  go_enter Tryd.func20, Tryd.ntmps20
  go_wp2_with fail
  refine (HVA.out _ (HV.out.up ((Up.refl w).alloc _))).mono ?_
  rintro e x1 ⟨rfl, hx1⟩
  have hs := hx1.size
  rw [size_alloc] at hs
  have d0 : x1.cell? ⟨w.heap.size, 0, none⟩ = some (.int .i64 K) := (hx1.cell _ _ (by rw [size_alloc]; omega)).trans (by go_simp)
  have d1 : x1.cell? ⟨w.heap.size, 1, none⟩ = some (.slice a n cap) := (hx1.cell _ _ (by rw [size_alloc]; omega)).trans (by go_simp)
  have d2 : x1.cell? ⟨w.heap.size, 2, none⟩ = some (.bool b) := (hx1.cell _ _ (by rw [size_alloc]; omega)).trans (by go_simp)
  have HU1 := Lib.hid (((Up.refl w).alloc (.cells #[.int .i64 K, .slice a n cap, .bool b] 26)).trans hx1)
  have q0 : w.heap.size < x1.heap.size := by omega
  clear hx1 hs
  cases q
  · rw [show errOf false = 1 from rfl]
    have HG : Hid (r = ([], 1)) := Lib.hid (by rw [← HR.out]; rfl)
    go_wp2
    go_ret2
    exact ⟨⟨.slice none 0 0, by rw [HG.out]; rfl, by rw [HG.out]; exact cons_nil _⟩, HU1.out⟩
  rw [show errOf true = 0 from rfl]
  go_wp2_with fail
  refine (HOP.out _ (HV.out.up HU1.out)).mono ?_
  rintro e x2 ⟨⟨v2, rfl, hv2, hc2⟩, hx2⟩
  have d0' := (hx2.cell _ _ q0).trans d0
  have d1' := (hx2.cell _ _ q0).trans d1
  have d2' := (hx2.cell _ _ q0).trans d2
  have q2 : w.heap.size < x2.heap.size := Nat.lt_of_lt_of_le q0 hx2.size
  have HU2 := Lib.hid (HU1.out.trans hx2)
  clear hx2 d0 d1 d2 q0 HU1
  obtain ⟨a2, cap2, rfl⟩ := hv2.slice
  cases f
  · have HG : Hid (r = ([], 3)) := Lib.hid (by rw [← HR.out]; rfl)
    clear hv2 hc2
    dsimp only
    go_wp2
    go_ret2
    exact ⟨⟨.slice none 0 0, by rw [HG.out]; rfl, by rw [HG.out]; exact cons_nil _⟩, HU2.out.alloc _⟩
  have HP2 : Hid (Part x2 (.slice a2 (negL l).length cap2) (negL l)) := Lib.hid ⟨hv2, negL_rng HRG.out.mem HF.out, hc2⟩
  obtain ⟨n2, hn2⟩ : ∃ n, (negL l).length = n := ⟨_, rfl⟩
  have hsl : (if (true : Bool) = true then ((-1 - K, negL l, 0) : Int × List Mono × Int) else (0, [], 3)) = (-1 - K, negL l, 0) := rfl
  try rw [hsl]
  dsimp only
  rw [hn2] at HP2
  try rw [hn2]
  have hk9 : In64 (-1 - K) := ⟨by omega, by omega⟩
  clear hv2 hc2 hn2 hsl
  cases b
  · have HG : Hid (r = ([(-1 - K, negL l, false)], 0)) := Lib.hid (by rw [← HR.out]; rfl)
    go_wp2
    go_ret2
    exact ⟨⟨.slice (some ⟨x2.heap.size + 1, 0, none⟩) 1 1, by rw [HG.out]; first | rfl | simp, by
      rw [HG.out]
      have := cons_one (e := false) 26 (HP2.out.up ((Up.refl x2).alloc (.cells #[.int .i64 (-1 - K), .slice a2 n2 cap2] 24))) hk9
      rw [size_alloc] at this
      exact this⟩, (HU2.out.alloc _).alloc _⟩
  by_cases hmin : K = -9223372036854775808
  · have HG : Hid (r = ([], 3)) := Lib.hid (by rw [← HR.out]; simp [hmin])
    subst hmin
    go_wp2
    go_ret2
    exact ⟨⟨.slice none 0 0, by rw [HG.out]; rfl, by rw [HG.out]; exact cons_nil _⟩, HU2.out.alloc _⟩
  have hmn : (K == -9223372036854775808) = false := by simpa using hmin
  have HG : Hid (r = ([(K - 1, l, false), (-1 - K, negL l, false)], 0)) := Lib.hid (by rw [← HR.out]; simp [hmin])
  have hwk : IntKind.i64.wrap (K - 1) = K - 1 := by rw [IntKind.wrap_i64]; omega
  have hk8 : In64 (K - 1) := ⟨by omega, by omega⟩
  have HK8 := Lib.hid hk8
  have HK9 := Lib.hid hk9
  clear hk8 hk9
  have HQ8 : Hid (x2.heap.size < (x2.alloc (.cells #[.int .i64 (-1 - K), .slice a2 n2 cap2] 24)).heap.size) := Lib.hid (by rw [size_alloc]; omega)
  have HLT : Hid (w.heap.size < (x2.alloc (.cells #[.int .i64 (-1 - K), .slice a2 n2 cap2] 24)).heap.size) := Lib.hid (by rw [size_alloc]; omega)
  have HD0 : Hid ((x2.alloc (.cells #[.int .i64 (-1 - K), .slice a2 n2 cap2] 24)).cell? ⟨w.heap.size, 0, none⟩ = some (.int .i64 K)) := Lib.hid ((((Up.refl x2).alloc _).cell _ _ q2).trans d0')
  have HD1 : Hid ((x2.alloc (.cells #[.int .i64 (-1 - K), .slice a2 n2 cap2] 24)).cell? ⟨w.heap.size, 1, none⟩ = some (.slice a n cap)) := Lib.hid ((((Up.refl x2).alloc _).cell _ _ q2).trans d1')
  go_upto_region 11 with fail
  refine wp_region_mk 10 (fun _ _ _ _ => False) (by kernel_rfl) (by kernel_rfl) ?_
  simp only [List.take_succ_cons, List.take_zero, List.drop_succ_cons, List.drop_zero]
  iterate 7 (refine wpMk_quiet anti_post (by kernel_rfl) ?_; go_big_quiet_step (fail); refine wpQuiet_nil ?_)
  have hx8 := HU2.out.alloc (.cells #[.int .i64 (-1 - K), .slice a2 n2 cap2] 24)
  refine wpMk_append anti_post _ _ 22 rfl 56 i0 _ 2 24 Tryd.underlying22 hi0 hz0 hz1 hz2 rfl (by decide) rfl (.slice a n cap) n _ rfl (HSL0.out.up hx8) HONE.out (by unfold maxLen; omega) (by omega) (by kernel_rfl) ?_
  rintro vb vd ⟨y, hy, hown⟩
  simp only [Act.put, List.setIfInBounds_toArray, List.set_cons_succ, List.set_cons_zero]
  refine wpMk_quiet anti_post (by kernel_rfl) ?_; go_big_quiet_step (fail); refine wpQuiet_nil ?_
  refine wpMk_alloc anti_post #[.int .i64 0, .slice none 0 0] 24 (by kernel_rfl) (fun x => by go_simp) ?_
  intro p hp
  simp only [Act.put, List.setIfInBounds_toArray, List.set_cons_succ, List.set_cons_zero]
  refine wpMk_nil ?_
  rintro x9 hx9 ⟨⟨_, hR⟩, hA⟩
  rw [size_alloc] at hp
  have a0 : x9.cell? ⟨p, 0, none⟩ = some (.int .i64 0) := cell_of_row _ _ _ _ _ _ hA
  have a1 : x9.cell? ⟨p, 1, none⟩ = some (.slice none 0 0) := cell_of_row _ _ _ _ _ _ hA
  have af : ∀ o, x9.frozen? ⟨p, o, none⟩ = false := fun o => frozen_of_row _ _ _ _ _ hA
  have asz : p < x9.heap.size := (Array.getElem?_eq_some_iff.1 hA).1
  have e0 : x9.cell? ⟨x2.heap.size, 0, none⟩ = some (.int .i64 (-1 - K)) := (hx9.cell _ _ HQ8.out).trans (by go_simp)
  have e1 : x9.cell? ⟨x2.heap.size, 1, none⟩ = some (.slice a2 n2 cap2) := (hx9.cell _ _ HQ8.out).trans (by go_simp)
  have es : x2.heap.size < x9.heap.size := Nat.lt_of_lt_of_le HQ8.out hx9.size
  have ne1 : (p = x2.heap.size) = False := by simp; omega
  have ne2 : (x2.heap.size = p) = False := by simp; omega
  have HU9 := Lib.hid (hx8.trans hx9)
  have hpw : w.heap.size ≤ p := by omega
  have HPP : Hid (Part ((x9.setCell ⟨p, 0, none⟩ (.int .i64 (K - 1))).setCell ⟨p, 1, none⟩ (.slice vb n vd)) (.slice vb n vd) l) := Lib.hid (by
    have h1 := own_far (own_far hR hA (by decide) 0 (.int .i64 (K - 1))) (set_heap hA _) (by decide) 1 (.slice vb n vd)
    refine ⟨?_, HRG.out, own_cap h1⟩
    unfold MonosAt
    rw [HNL.out]
    exact SlAt.of_own h1 (by omega) (fun i j hi hj => flat_get _ _ _ _ _ hi hj))
  have HPP2 : Hid (Part ((x9.setCell ⟨p, 0, none⟩ (.int .i64 (K - 1))).setCell ⟨p, 1, none⟩ (.slice vb n vd)) (.slice a2 n2 cap2) (negL l)) := Lib.hid (HP2.out.up (((((Up.refl x2).alloc _).trans hx9).setCell (by show x2.heap.size ≤ p; omega) _).setCell (by show x2.heap.size ≤ p; omega) _))
  clear hx9 hx8 hA hR hy hown d0' d1' d2' HP2 HD0 HD1 HLT HQ8 hp
  go_wp2
  go_ret2
  refine ⟨⟨.slice (some ⟨x9.heap.size, 0, none⟩) 2 2, by rw [HG.out]; simp, ?_⟩, (((HU9.out.setCell (by show w.heap.size ≤ p; exact hpw) _).setCell (by show w.heap.size ≤ p; exact hpw) _).alloc _)⟩
  rw [HG.out]
  have := cons_two (e := false) (e' := false) 26 HPP.out HK8.out HPP2.out HK9.out
  rw [set_size, set_size] at this
  exact this
end Go.Proofs.YtahlecmlhdikjaaDoor
