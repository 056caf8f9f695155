/-
  Tighten of the reference: the walk (printed by tools/mkCoRt.py).
-/
import Derived.Test.YtahlecmlhdikjaaDoorCoR
import Derived.Test.YtahlecmlhdikjaaDoorGj
import Derived.Test.YtahlecmlhdikjaaDoorCoT
import Derived.Test.YtahlecmlhdikjaaDoorGf

import Derived.BigRegion
namespace Go.Proofs.YtahlecmlhdikjaaDoor
open Go.ChangeShapes Go.WideShapes Go.ChangeAt Go.RowKit
set_option linter.unusedVariables false
set_option linter.unusedSimpArgs false
set_option maxRecDepth 100000

theorem rng_of' {l : List Mono} (h : ∀ m ∈ l, In64 m.2) : Rng l := fun k hk => by
  rw [List.getD_eq_getElem?_getD, List.getElem?_eq_getElem hk]
  exact h _ (List.getElem_mem hk)
theorem gcdL_snoc (l : List Mono) (m : Mono) : gcdL (l ++ [m]) = Nat.gcd (gcdL l) m.2.natAbs := by simp [gcdL]
theorem mag_mod (k g : Int) : mag k % g = 0 ↔ k % g = 0 := by
  unfold mag
  split
  · exact ⟨fun h => Int.emod_eq_zero_of_dvd (Int.dvd_neg.1 (Int.dvd_of_emod_eq_zero h)), fun h => Int.emod_eq_zero_of_dvd (Int.dvd_neg.2 (Int.dvd_of_emod_eq_zero h))⟩
  · exact Iff.rfl
theorem OutC.key0 {w : World} {h O n : Nat} {K : Int} {q : Bool} {l : List Mono} {a : Option Addr} {cap : Nat} (x : OutC w h O K q l n a cap) (w1 : World) (hg : w.grownBy w1 (Value.slice a n cap).ownBlock) :
    w1.cell? ⟨O, 1, none⟩ = some (.slice a n cap) ∧ (∀ o, w1.frozen? ⟨O, o, none⟩ = false) ∧ Hid (w1.heap[O]? = some (.cells #[.int .i64 K, .slice a n cap, .bool q] 26 (0, 0))) ∧ Hid (UpRow h O w w1) ∧ Hid (h ≤ w1.heap.size) := by
  obtain ⟨h1, h2, h3, h4, h5⟩ := x
  have hne : ∀ k, k < h → some k ≠ (Value.slice a n cap).ownBlock := fun k hk e => by have := (h3.lt k e.symm).1; omega
  have g0 := (hg.block O (by omega) (hne O h4)).trans h2
  have hs := hg.size
  exact ⟨cell_of_row _ _ _ _ _ _ g0, fun o => frozen_of_row _ _ o _ _ g0, Lib.hid g0, Lib.hid ⟨hg.os, hg.tape, hg.output, by omega, fun k hk _ => hg.block k (by omega) (hne k hk)⟩, Lib.hid (by omega)⟩
/-- A new row. -/
theorem wpMk_row {P : Program} {ops : Array Oper} {w : World} {M : FuncId → Array Value → Value → World → Prop} {L : Act → (World → Prop) → Prop} (hL : AntiS (w := w) L) {o : Oper} {rest : List Oper} {a : Act} {S : World → Prop} (cs : Array Value) (t : TypeId) (m : Nat)
    (hw : Region.wanted o (yielded ops a.tmps) = true) (hrun : ∀ x, (execOp a.eval o).run P x = .ok (.value (.slice (some ⟨x.heap.size, 0, none⟩) m m)) (x.alloc (.cells cs t (0, 0))))
    (h : ∀ b, w.heap.size ≤ b → wpMk P ops M w L rest (a.put o.dst (.slice (some ⟨b, 0, none⟩) m m)) (fun y => S y ∧ y.heap[b]? = some (.cells cs t (0, 0)))) : wpMk P ops M w L (o :: rest) a S := by
  refine wpMk_any hL (fun v y => ∃ b, v = .slice (some ⟨b, 0, none⟩) m m ∧ w.heap.size ≤ b ∧ y.heap[b]? = some (.cells cs t (0, 0))) (fun v x y ⟨b, h1, h2, h3⟩ hu => ⟨b, h1, h2, by rw [hu.heap b (Array.getElem?_eq_some_iff.1 h3).1]; exact h3⟩) hw
    (fun x hx => ⟨_, _, hrun x, (Up.refl x).alloc _, x.heap.size, rfl, hx.size, heap_alloc_new x _⟩) (fun v ⟨y, _, b, h1, h2, _⟩ => ?_)
  subst h1
  refine wpMk_anti hL _ _ _ _ (fun x _ ⟨h3, b', h4, h5, h6⟩ => ?_) (h b h2)
  cases h4
  exact ⟨h3, h6⟩
theorem mono_sl' {x : World} {b : Nat} {t : TypeId} {s : ByteArray} {c : Int} (h : x.heap[b]? = some (.cells #[.string s, .int .i64 c] t (0, 0))) : SlAt x (.slice (some ⟨b, 0, none⟩) 1 1) 1 2 (monoF [(s, c)]) := by
  refine ⟨⟨_, _, rfl, fun h => (by cases h), fun a ha _ => ?_⟩, by decide⟩
  cases ha
  refine ⟨rfl, (Array.getElem?_eq_some_iff.1 h).1, fun i j hi hj => ?_⟩
  obtain rfl : i = 0 := by omega
  rcases (by omega : j = 0 ∨ j = 1) with rfl | rfl <;> exact cell_of_row _ _ _ _ _ _ h
theorem OutC.setK {w : World} {h O n : Nat} {K K' : Int} {q : Bool} {l : List Mono} {a : Option Addr} {cap : Nat} (x : OutC w h O K q l n a cap) : OutC (w.setCell ⟨O, 0, none⟩ (.int .i64 K')) h O K' q l n a cap := by
  obtain ⟨h1, h2, h3, h4, h5⟩ := x
  exact ⟨h1, set_heap h2 _, ownsRow_setCell_below h3 h4 _, h4, by rw [set_size]; exact h5⟩
theorem monoCells_set : ∀ (l : List Mono) (j : Nat) (s : ByteArray) (z z' : Int), j < l.length → l.getD j m0 = (s, z) → monoCells (l.set j (s, z')) = (monoCells l).set (j * 2 + 1) (.int .i64 z')
  | [], j, _, _, _, h, _ => absurd h (by simp)
  | m :: r, 0, s, z, z', _, h => by
    have h : m = (s, z) := h
    subst h; rfl
  | m :: r, j + 1, s, z, z', hj, h => by
    have ih := monoCells_set r j s z z' (by simpa using hj) h
    show [Value.string m.1, .int .i64 m.2] ++ monoCells (r.set j (s, z')) = ([Value.string m.1, .int .i64 m.2] ++ monoCells r).set ((j + 1) * 2 + 1) (.int .i64 z')
    rw [ih, show (j + 1) * 2 + 1 = (j * 2 + 1) + 2 by omega]; rfl
theorem monoCells_len (l : List Mono) : (monoCells l).length = l.length * 2 := by
  induction l with
  | nil => rfl
  | cons m r ih =>
    show ([Value.string m.1, .int .i64 m.2] ++ monoCells r).length = _
    rw [List.length_append, ih, List.length_cons]; simp; omega
theorem OutC.setBy {w : World} {h O n g cap : Nat} {K : Int} {q : Bool} {l : List Mono} (x : OutC w h O K q l n (some ⟨g, 0, none⟩) cap) (j : Nat) (hj : j < n) (s : ByteArray) (z z' : Int) (hl : l.getD j m0 = (s, z)) :
    OutC (w.setCell ⟨g, j * 2 + 1, none⟩ (.int .i64 z')) h O K q (l.set j (s, z')) n (some ⟨g, 0, none⟩) cap ∧ UpRow h O w (w.setCell ⟨g, j * 2 + 1, none⟩ (.int .i64 z')) := by
  obtain ⟨h1, h2, h3, h4, h5⟩ := x
  obtain ⟨g', cp, hv, hgb, hgl, _⟩ := own_get h3 (by omega)
  obtain rfl : g = g' := by simp only [Value.slice.injEq, Option.some.injEq, Addr.mk.injEq] at hv; exact hv.1.1
  refine ⟨⟨by rw [List.length_set]; exact h1, (set_heap_ne (by omega)).trans h2, ?_, h4, by rw [set_size]; exact h5⟩, rfl, rfl, rfl, by rw [set_size]; exact Nat.le_refl _, fun k hk _ => set_heap_ne (by omega)⟩
  rw [monoCells_set l j s z z' (by omega) hl]
  exact own_set h3 (j * 2 + 1) (by rw [monoCells_len]; omega) _
theorem neg_next {l : List Mono} {m : Nat} (hm : m < l.length) {s : ByteArray} {z : Int} (h : l.getD m m0 = (s, z)) :
    (negL (l.take m) ++ l.drop m).getD m m0 = (s, z) ∧ (negL (l.take m) ++ l.drop m).set m (s, -z) = negL (l.take (m + 1)) ++ l.drop (m + 1) := by
  have e : l[m]'hm = (s, z) := by rw [List.getD_eq_getElem?_getD, List.getElem?_eq_getElem hm] at h; exact h
  have hl : (negL (l.take m)).length = m := by unfold negL; rw [List.length_map, List.length_take]; omega
  rw [List.drop_eq_getElem_cons hm, e, take_snoc hm h]
  refine ⟨?_, ?_⟩
  · rw [List.getD_eq_getElem?_getD, List.getElem?_append_right (by omega), hl, Nat.sub_self]; rfl
  · rw [List.set_append_right _ _ (by omega), hl, Nat.sub_self]
    have : negL (l.take m ++ [(s, z)]) = negL (l.take m) ++ [(s, -z)] := by simp [negL]
    rw [this, List.append_assoc]; rfl

set_option maxHeartbeats 16000000 in
theorem r06_Tighten (K : Int) (v : Value) (l : List Mono) (b : Bool) (w : World) (hv : Part w v l) (hK : In64 K) (hlen : l.length ≤ 1000) :
    Calls Tryd.prog 16 #[.agg #[.int .i64 K, v, .bool b]] w (TightR w (tightF (K, l, b))) := by
  obtain ⟨i0, hi0, hz0, hz1, hz2⟩ := info_parts mono_info
  obtain ⟨r, hr⟩ : ∃ r, tightF (K, l, b) = r := ⟨_, rfl⟩
  rw [hr]
  obtain ⟨hm, hrg, hcp⟩ := hv
  have HV := Lib.hid hm
  have HRG := Lib.hid hrg
  have HK := Lib.hid hK
  obtain ⟨a, cap, rfl⟩ := hm.slice
  obtain ⟨n, hn⟩ : ∃ n, l.length = n := ⟨_, rfl⟩
  rw [hn] at HV ⊢
  obtain ⟨q, hq⟩ : ∃ q, okL l = q := ⟨_, rfl⟩
  obtain ⟨g, hg⟩ : ∃ g, gcdL l = g := ⟨_, rfl⟩
  have HVA : Hid (∀ w, MonosAt w (.slice a n cap) l → Calls Tryd.prog 32 #[.agg #[.int .i64 K, .slice a n cap, .bool b]] w fun e w' => e = .returned (.int .i64 (errOf q)) ∧ Up w w') := Lib.hid fun w h => by
    have := r06_Validate K _ l b w h
    rw [hq] at this; exact this
  have HG0 : Hid (q = true → n ≠ 0 → 0 < g) := Lib.hid fun h h0 => by rw [← hg]; exact gcd_pos (hq.trans h) (by rw [hn]; exact h0)
  have HG1 : Hid (g ≤ 9223372036854775808) := Lib.hid (hg ▸ gcd_le l hrg)
  have HGD : Hid (∀ m ∈ l, (g : Int) ∣ m.2) := Lib.hid (hg ▸ gcd_dvd l)
  have HNZ : Hid (q = true → ∀ m ∈ l, m.2 ≠ 0) := Lib.hid fun h => by
    have key : ∀ (l : List Mono) p, okFrom p l = true → ∀ m ∈ l, m.2 ≠ 0 := by
      intro l
      induction l with
      | nil => exact fun _ _ m hm => by cases hm
      | cons m r ih =>
        intro p h x hx
        obtain ⟨_, h2, _, h4⟩ := (okFrom_cons p m r).1 h
        rcases List.mem_cons.1 hx with rfl | hx
        · exact h2
        · exact ih _ h4 x hx
    exact key l none (hq.trans h)
  have HOK : Hid (q = true → 0 < g → okL (divL l (g : Int)) = true) := Lib.hid fun h h0 => divL_ok (by omega) l none (hq.trans h) (hg ▸ gcd_dvd l)
  have HR : Hid ((if q then
      (if n = 0 then (if holdsB K b then (c0, 1, 0) else ((-1, [], false), 2, 0))
        else if b && decide (K % (g : Int) ≠ 0) then ((-1, [], false), 2, 0)
        else if b && decide ((l.getD 0 m0).2 < 0) then
          (if decide (K / (g : Int) ≠ -9223372036854775808) && negFit (divL l (g : Int)) then ((-(K / (g : Int)), negL (divL l (g : Int)), true), 0, 0) else (c0, 0, 3))
        else ((K / (g : Int), divL l (g : Int), b), 0, 0))
    else ((c0, 0, 1) : Con × Int × Int)) = r) := Lib.hid (by rw [← hr]; unfold tightF; dsimp only; rw [hq, hg, hn])
  have HNL := Lib.hid hn
  have HDN : Hid ((divL l (g : Int)).length = n) := Lib.hid (by unfold divL; rw [List.length_map, hn])
  rw [hn] at hlen
  have hnI : (n : Int) ≤ 1000 := by omega
  have HL := Lib.hid hlen
  obtain ⟨k0, k1⟩ := hK
  clear hr hm hrg hcp hn hq
  go_enter Tryd.func16, Tryd.ntmps16
  go_wp2_with fail
  refine (HVA.out _ (HV.out.up (((Up.refl w).alloc _).alloc _))).mono ?_
  rintro e x1 ⟨rfl, hx1⟩
  have hs := hx1.size
  rw [size_alloc, size_alloc] at hs
  have e0 : x1.cell? ⟨w.heap.size, 0, none⟩ = some (.int .i64 K) := (hx1.cell _ _ (by rw [size_alloc, size_alloc]; omega)).trans (by go_simp)
  have e1 : x1.cell? ⟨w.heap.size, 1, none⟩ = some (.slice a n cap) := (hx1.cell _ _ (by rw [size_alloc, size_alloc]; omega)).trans (by go_simp)
  have e2 : x1.cell? ⟨w.heap.size, 2, none⟩ = some (.bool b) := (hx1.cell _ _ (by rw [size_alloc, size_alloc]; omega)).trans (by go_simp)
  have d0 : x1.cell? ⟨w.heap.size + 1, 0, none⟩ = some (.int .i64 0) := (hx1.cell _ _ (by rw [size_alloc, size_alloc]; omega)).trans (by go_simp)
  have d1 : x1.cell? ⟨w.heap.size + 1, 1, none⟩ = some (.slice none 0 0) := (hx1.cell _ _ (by rw [size_alloc, size_alloc]; omega)).trans (by go_simp)
  have d2 : x1.cell? ⟨w.heap.size + 1, 2, none⟩ = some (.bool false) := (hx1.cell _ _ (by rw [size_alloc, size_alloc]; omega)).trans (by go_simp)
  have df : ∀ o, x1.frozen? ⟨w.heap.size + 1, o, none⟩ = false := fun o => (hx1.frozen _ _ (by rw [size_alloc, size_alloc]; omega)).trans (by go_simp)
  have q0 : w.heap.size < x1.heap.size := by omega
  have HRB : Hid (x1.heap[w.heap.size + 1]? = some (.cells #[.int .i64 0, .slice none 0 0, .bool false] 26 (0, 0))) := Lib.hid (by
    rw [hx1.heap _ (by rw [size_alloc, size_alloc]; omega)]
    have := heap_alloc_new (w.alloc (.cells #[.int .i64 K, .slice a n cap, .bool b] 26)) (.cells #[.int .i64 0, .slice none 0 0, .bool false] 26)
    rw [size_alloc] at this; exact this)
  have q1 : w.heap.size + 1 < x1.heap.size := by omega
  have HU1 := Lib.hid ((((Up.refl w).alloc (.cells #[.int .i64 K, .slice a n cap, .bool b] 26)).alloc (.cells #[.int .i64 0, .slice none 0 0, .bool false] 26)).trans hx1)
  have hset : ∀ (x : World) (v : Value) (o : Nat), Up w x → Up w (x.setCell ⟨w.heap.size + 1, o, none⟩ v) := fun x v o u => u.setCell (by show w.heap.size ≤ w.heap.size + 1; omega) v
  have HSET := Lib.hid hset
  clear hx1 hs hset
  cases q
  · rw [show errOf false = 1 from rfl]
    have HG : Hid (r = ((0, [], false), 0, 1)) := Lib.hid (by rw [← HR.out]; rfl)
    go_wp2
    refine bodyPost_ret (v := .tuple #[.agg #[.int .i64 0, .slice none 0 0, .bool false], .int .i64 0, .int .i64 1]) (by first | (simp [results, Tryd.results16, go_sem, d0, d1, d2]; done) | (simp [results, Tryd.results16, go_sem, d0, d1, d2, q1]; done) | go_simp) rfl ?_
    rw [HG.out]
    exact ⟨⟨_, rfl, part_nil _, fresh_nil _⟩, by repeat (first | exact HU1.out | refine HSET.out _ _ _ ?_)⟩
  rw [show errOf true = 0 from rfl]
  by_cases h0 : n = 0
  · have HG : Hid (r = if holdsB K b then ((0, [], false), 1, 0) else ((-1, [], false), 2, 0)) := Lib.hid (by rw [← HR.out]; rw [if_pos rfl, if_pos h0])
    obtain rfl := h0
    by_cases h1 : K = 0
    · have HG2 : Hid (r = ((0, [], false), 1, 0)) := Lib.hid (by rw [HG.out]; unfold holdsB; simp [h1])
      obtain rfl := h1
      go_wp2
      refine bodyPost_ret (v := .tuple #[.agg #[.int .i64 0, .slice none 0 0, .bool false], .int .i64 1, .int .i64 0]) (by first | (simp [results, Tryd.results16, go_sem, d0, d1, d2]; done) | (simp [results, Tryd.results16, go_sem, d0, d1, d2, q1]; done) | go_simp) rfl ?_
      rw [HG2.out]
      exact ⟨⟨_, rfl, part_nil _, fresh_nil _⟩, by repeat (first | exact HU1.out | refine HSET.out _ _ _ ?_)⟩
    have h1' : (K == 0) = false := by simpa using h1
    by_cases h3 : 0 < K
    · cases b
      · have HG2 : Hid (r = ((0, [], false), 1, 0)) := Lib.hid (by rw [HG.out]; unfold holdsB; simp [h3])
        go_wp2
        refine bodyPost_ret (v := .tuple #[.agg #[.int .i64 0, .slice none 0 0, .bool false], .int .i64 1, .int .i64 0]) (by first | (simp [results, Tryd.results16, go_sem, d0, d1, d2]; done) | (simp [results, Tryd.results16, go_sem, d0, d1, d2, q1]; done) | go_simp) rfl ?_
        rw [HG2.out]
        exact ⟨⟨_, rfl, part_nil _, fresh_nil _⟩, by repeat (first | exact HU1.out | refine HSET.out _ _ _ ?_)⟩
      · have HG2 : Hid (r = ((-1, [], false), 2, 0)) := Lib.hid (by rw [HG.out]; unfold holdsB; simp [h1])
        go_wp2_with fail
        refine (r06_never _).mono ?_
        rintro e x2 ⟨rfl, hx2⟩
        replace d0 := (hx2.cell _ _ q1).trans d0
        replace d1 := (hx2.cell _ _ q1).trans d1
        replace d2 := (hx2.cell _ _ q1).trans d2
        replace df := fun o => (hx2.frozen _ o q1).trans (df o)
        replace q1 := Nat.lt_of_lt_of_le q1 hx2.size
        have HU2 := Lib.hid (HU1.out.trans hx2)
        clear hx2
        try clear q0 e0 e1 e2
        go_wp2
        refine bodyPost_ret (v := .tuple #[.agg #[.int .i64 (-1), .slice none 0 0, .bool false], .int .i64 2, .int .i64 0]) (by first | (simp [results, Tryd.results16, go_sem, d0, d1, d2]; done) | (simp [results, Tryd.results16, go_sem, d0, d1, d2, q1]; done) | go_simp) rfl ?_
        rw [HG2.out]
        exact ⟨⟨_, rfl, part_nil _, fresh_nil _⟩, by repeat (first | exact HU2.out | refine HSET.out _ _ _ ?_)⟩
    · have HG2 : Hid (r = ((-1, [], false), 2, 0)) := Lib.hid (by rw [HG.out]; unfold holdsB; simp [h1, h3])
      go_wp2_with fail
      refine (r06_never _).mono ?_
      rintro e x2 ⟨rfl, hx2⟩
      replace d0 := (hx2.cell _ _ q1).trans d0
      replace d1 := (hx2.cell _ _ q1).trans d1
      replace d2 := (hx2.cell _ _ q1).trans d2
      replace df := fun o => (hx2.frozen _ o q1).trans (df o)
      replace q1 := Nat.lt_of_lt_of_le q1 hx2.size
      have HU2 := Lib.hid (HU1.out.trans hx2)
      clear hx2
      try clear q0 e0 e1 e2
      go_wp2
      refine bodyPost_ret (v := .tuple #[.agg #[.int .i64 (-1), .slice none 0 0, .bool false], .int .i64 2, .int .i64 0]) (by first | (simp [results, Tryd.results16, go_sem, d0, d1, d2]; done) | (simp [results, Tryd.results16, go_sem, d0, d1, d2, q1]; done) | go_simp) rfl ?_
      rw [HG2.out]
      exact ⟨⟨_, rfl, part_nil _, fresh_nil _⟩, by repeat (first | exact HU2.out | refine HSET.out _ _ _ ?_)⟩
  have HR2 : Hid ((if b && decide (K % (g : Int) ≠ 0) then ((-1, [], false), 2, 0)
          else if b && decide ((l.getD 0 m0).2 < 0) then
            (if decide (K / (g : Int) ≠ -9223372036854775808) && negFit (divL l (g : Int)) then ((-(K / (g : Int)), negL (divL l (g : Int)), true), 0, 0) else (c0, 0, 3))
          else ((K / (g : Int), divL l (g : Int), b), 0, 0)) = r) := Lib.hid (by have := HR.out; rw [if_pos rfl, if_neg h0] at this; exact this)
  have hn0 : ((n : Int) == 0) = false := by simp; omega
  have hg0 := HG0.out rfl h0
  have HGP := Lib.hid hg0
  have HNP : Hid (0 < n) := Lib.hid (by omega)
  clear h0 HR HG0 hg0
  obtain ⟨Ko, hKo⟩ : ∃ x, K / (g : Int) = x := ⟨_, rfl⟩
  have HKO : Hid (In64 Ko) := Lib.hid (hKo ▸ div_in64 (by have := HGP.out; omega) HK.out)
  obtain ⟨D, hD⟩ : ∃ D, divL l (g : Int) = D := ⟨_, rfl⟩
  have HDD := Lib.hid hD
  have HDR : Hid (Rng D) := Lib.hid (hD ▸ divL_rng (by have := HGP.out; omega) HRG.out.mem)
  have HDL : Hid (D.length = n) := Lib.hid (hD ▸ HDN.out)
  have HD0 : Hid (D.getD 0 m0 ∈ D ∧ ((D.getD 0 m0).2 < 0 ↔ (l.getD 0 m0).2 < 0) ∧ (D.getD 0 m0).2 ≠ 0) := Lib.hid (by
    have h0 : l.length ≠ 0 := by rw [HNL.out]; simpa using hn0
    have h1 : D.length ≠ 0 := by rw [HDL.out]; simpa using hn0
    have hs := div_sign (a := (l.getD 0 m0).2) (g := (g : Int)) (by have := HGP.out; omega) (HGD.out _ (head_mem h0))
    refine ⟨head_mem h1, ?_, ?_⟩
    · rw [← hD, head_getD h0]; exact hs.1
    · rw [← hD, head_getD h0]; exact fun e => HNZ.out (by first | rfl | trivial) _ (head_mem h0) (hs.2.1 e))
  have HFL : Hid (∀ x k, In64 k → Calls Tryd.prog 43 #[.int .i64 k, .int .u64 (g : Int)] x fun e w' => e = .returned (.int .i64 (k / (g : Int))) ∧ w' = x) := Lib.hid fun x k hk => r06_floor k (g : Int) hk (by have := HGP.out; omega) (by have := HG1.out; omega) x
  rw [hKo, hD] at HR2
  have HKD := Lib.hid hKo
  have HGE := Lib.hid hg
  clear hKo hD HDN HOK
  go_wp2
  go_loopw [7, 8] (fun gv iv wr => ∃ k : Nat, k ≤ n ∧ iv = .int .i64 k ∧ gv = .int .u64 ((gcdL (l.take k) : Nat) : Int) ∧ Up x1 wr) (fun _ iv _ => n - (intOf iv).toNat)
  case atStart => exact ⟨0, by omega, rfl, by rw [List.take_zero]; rfl, Up.refl _⟩
  case round =>
    rename World => wr
    obtain ⟨k, hk, rfl, rfl, hU⟩ := hrel
    obtain ⟨G, hG⟩ : ∃ G, gcdL (l.take k) = G := ⟨_, rfl⟩
    rw [hG]
    have HGG := Lib.hid hG
    have HGL : Hid (G ≤ 9223372036854775808) := Lib.hid (hG ▸ gcd_le _ (rng_of' fun m hm => HRG.out.mem m (List.mem_of_mem_take hm)))
    have hGb : (G : Int) ≤ 9223372036854775808 := by have := HGL.out; omega
    replace d0 := (hU.cell _ _ q1).trans d0
    replace d1 := (hU.cell _ _ q1).trans d1
    replace d2 := (hU.cell _ _ q1).trans d2
    replace df := fun o => (hU.frozen _ o q1).trans (df o)
    replace e0 := (hU.cell _ _ q0).trans e0
    replace e1 := (hU.cell _ _ q0).trans e1
    replace e2 := (hU.cell _ _ q0).trans e2
    replace HRB := Lib.hid ((hU.heap _ q1).trans HRB.out)
    replace q1 := Nat.lt_of_lt_of_le q1 hU.size
    replace q0 := Nat.lt_of_lt_of_le q0 hU.size
    have HUX := Lib.hid hU
    replace HU1 := Lib.hid (HU1.out.trans hU)
    clear hU hG
    by_cases hlt : k < n
    · have hlt2 : (k : Int) < (n : Int) := by omega
      have hk0 : (0 : Int) ≤ (k : Int) := by omega
      obtain ⟨bl, off, s, y, rfl, p1, p2, p3, p4⟩ := HV.out.elem HU1.out k (by rw [HNL.out]; exact hlt) HNL.out rfl
      have hy : In64 y := by
        have := HRG.out k (by rw [HNL.out]; exact hlt)
        rw [p2] at this; exact this
      have HT : Hid (gcdL (l.take (k + 1)) = Nat.gcd G y.natAbs) := Lib.hid (by
        rw [take_snoc (by rw [HNL.out]; exact hlt) p2, gcdL_snoc, HGG.out])
      obtain ⟨M, hM⟩ : ∃ M, mag y = M := ⟨_, rfl⟩
      have hM0 : 0 ≤ M := hM ▸ mag_nonneg y
      have hM1 : M ≤ 9223372036854775808 := by rw [← hM]; obtain ⟨y0, y1⟩ := hy; unfold mag; split <;> omega
      have HSZ : Hid (∀ w, Calls Tryd.prog 42 #[.int .i64 y] w fun e w' => e = .returned (.int .u64 M) ∧ w' = w) := Lib.hid fun w => hM ▸ r06_size y hy w
      have HGC : Hid (∀ w, Calls Tryd.prog 41 #[.int .u64 (G : Int), .int .u64 M] w fun e w' => e = .returned (.int .u64 ((gcdL (l.take (k + 1)) : Nat) : Int)) ∧ Up w w') := Lib.hid fun w => by
        have h := r06_gcd (G : Int) M (by omega) (by omega) hM0 (by omega) w
        have e : Int.gcd (G : Int) M = gcdL (l.take (k + 1)) := by
          rw [HT.out, ← hM, mag_natAbs, Int.gcd_natCast_natCast]
        rw [e] at h; exact h
      have q5 : bl < wr.heap.size := by have := HU1.out.size; omega
      clear p2 hM hy
      go_wp2_with fail
      refine (HSZ.out _).mono ?_
      rintro e x5 ⟨rfl, hx5⟩
      replace hx5 := hx5.symm
      subst hx5
      go_wp2_with fail
      refine (HGC.out _).mono ?_
      rintro e x5 ⟨rfl, hx5⟩
      have HX5 := Lib.hid (HUX.out.trans hx5)
      clear hx5
      go_wp2
      go_roundw
      case rel => exact ⟨k + 1, by omega, by go_num, rfl, HX5.out⟩
      case measure => simp [intOf]; omega
    · have hkn : k = n := by omega
      subst hkn
      have hlt2 : ¬ (k : Int) < (k : Int) := by omega
      have hGg : G = g := by rw [← HGG.out, List.take_of_length_le (by rw [HNL.out]; exact Nat.le_refl _), HGE.out]
      subst hGg
      have hgz : ((G : Int) == 0) = false := by have := HGP.out; simp; omega
      have hgm : ¬ (G : Int) = 0 := by have := HGP.out; omega
      have hg1 : (1 : Int) ≤ (G : Int) := by have := HGP.out; omega
      obtain ⟨T, hT⟩ : ∃ T, mag K = T := ⟨_, rfl⟩
      have hT0 : 0 ≤ T := hT ▸ mag_nonneg K
      have hT1 : T ≤ 9223372036854775808 := by rw [← hT]; unfold mag; split <;> omega
      have HSK : Hid (∀ w, Calls Tryd.prog 42 #[.int .i64 K] w fun e w' => e = .returned (.int .u64 T) ∧ w' = w) := Lib.hid fun w => hT ▸ r06_size K HK.out w
      obtain ⟨tr, htr⟩ : ∃ t, T % (G : Int) = t := ⟨_, rfl⟩
      have HTD : Hid (tr = 0 ↔ K % (G : Int) = 0) := Lib.hid (by rw [← htr, ← hT]; exact mag_mod K (G : Int))
      have htm : T.tmod (G : Int) = tr := by rw [Int.tmod_eq_emod_of_nonneg hT0, htr]
      have tr0 : 0 ≤ tr := htr ▸ Int.emod_nonneg _ hgm
      have tr1 : tr ≤ 9223372036854775808 := by have := Int.emod_lt_of_pos T (by omega : (0 : Int) < (G : Int)); omega
      clear hT
      have HCA : Hid (b = false ∨ (b = true ∧ tr ≠ 0) ∨ (b = true ∧ tr = 0)) := Lib.hid (by cases b; exact .inl rfl; by_cases h : tr = 0; exact .inr (.inr ⟨rfl, h⟩); exact .inr (.inl ⟨rfl, h⟩))
      rcases HCA.out with hb | ⟨hb, ht⟩ | ⟨hb, ht⟩
      · subst hb
        rw [Bool.false_and, Bool.false_and, if_neg (by simp), if_neg (by simp)] at HR2
        clear htm htr hT0 hT1 tr0 tr1
        have HF1 : Hid (∀ x, Calls Tryd.prog 43 #[.int .i64 K, .int .u64 (G : Int)] x fun e w' => e = .returned (.int .i64 Ko) ∧ w' = x) := Lib.hid fun x => by
          have := HFL.out x K HK.out
          rw [HKD.out] at this; exact this
        go_upto_region 16 with fail
        refine wp_region_mk 8 (fun _ _ v x => v = .int .i64 Ko) (by kernel_rfl) (by kernel_rfl) ?_
        simp only [List.take_succ_cons, List.take_zero, List.drop_succ_cons, List.drop_zero]
        iterate 4 (refine wpMk_quiet anti_post (by kernel_rfl) ?_; go_big_quiet_step (fail); refine wpQuiet_nil ?_)
        refine wpMk_enter anti_post 43 #[.int .i64 K, .int .u64 (G : Int)] (fun v x y h hu => h) (by kernel_rfl) (fun x => by go_simp) (fun x hx => (HF1.out x).mono fun e w' ⟨h1, h2⟩ => ⟨_, h1, h2 ▸ Up.refl x, rfl⟩) ?_
        rintro v ⟨y, hy, rfl⟩
        simp only [Act.put, List.setIfInBounds_toArray, List.set_cons_succ, List.set_cons_zero]
        iterate 2 (refine wpMk_quiet anti_post (by kernel_rfl) ?_; go_big_quiet_step (fail); refine wpQuiet_nil ?_)
        refine wpMk_alloc anti_post #[.int .i64 0, .slice none 0 0, .bool false] 26 (by kernel_rfl) (fun x => by go_simp) ?_
        intro p hp
        simp only [Act.put, List.setIfInBounds_toArray, List.set_cons_succ, List.set_cons_zero]
        refine wpMk_nil ?_
        rintro x9 hx9 ⟨_, hA⟩
        have p0 : x9.cell? ⟨p, 0, none⟩ = some (.int .i64 0) := cell_of_row _ _ _ _ _ _ hA
        have p1 : x9.cell? ⟨p, 1, none⟩ = some (.slice none 0 0) := cell_of_row _ _ _ _ _ _ hA
        have p2 : x9.cell? ⟨p, 2, none⟩ = some (.bool false) := cell_of_row _ _ _ _ _ _ hA
        have pf : ∀ o, x9.frozen? ⟨p, o, none⟩ = false := fun o => frozen_of_row _ _ _ _ _ hA
        have psz : p < x9.heap.size := (Array.getElem?_eq_some_iff.1 hA).1
        have hpw : w.heap.size + 1 < p := by omega
        obtain ⟨x10, hx10⟩ : ∃ x, ((x9.setCell ⟨p, 0, none⟩ (.int .i64 Ko)).setCell ⟨p, 1, none⟩ (.slice none 0 0)).setCell ⟨p, 2, none⟩ (.bool false) = x := ⟨_, rfl⟩
        have HOC : Hid (OutC x10 x9.heap.size p Ko false [] 0 none 0) := Lib.hid (hx10 ▸ ⟨rfl, set_heap (set_heap (set_heap hA _) _) _, World.ownsRow_nil _ _ _ _, psz, by rw [set_size, set_size, set_size]; exact Nat.le_refl _⟩)
        have HDA : Hid (x10.heap[w.heap.size + 1]? = some (.cells #[.int .i64 0, .slice none 0 0, .bool false] 26 (0, 0))) := Lib.hid (by
          rw [← hx10, set_heap_ne (by omega), set_heap_ne (by omega), set_heap_ne (by omega), hx9.heap _ (by omega)]
          exact HRB.out)
        have HEA : Hid (x10.cell? ⟨w.heap.size, 1, none⟩ = some (.slice a k cap) ∧ x10.cell? ⟨w.heap.size, 2, none⟩ = some (.bool false)) := Lib.hid (by
          rw [← hx10]
          refine ⟨?_, ?_⟩
          · rw [set_cell_ne (by omega), set_cell_ne (by omega), set_cell_ne (by omega), hx9.cell _ _ (by omega)]
            exact e1
          · rw [set_cell_ne (by omega), set_cell_ne (by omega), set_cell_ne (by omega), hx9.cell _ _ (by omega)]
            exact e2)
        have HU9 : Hid (Up w x10) := Lib.hid (hx10 ▸ ((((HU1.out.trans hx9).setCell (by show w.heap.size ≤ p; omega) _).setCell (by show w.heap.size ≤ p; omega) _).setCell (by show w.heap.size ≤ p; omega) _))
        have HX10 := Lib.hid hx10
        clear hy hA hx9 hp e0 e1 e2 d0 d1 d2 df hx10
        go_upto_region 17 with fail
        rw [HX10.out]
        obtain ⟨H, hH⟩ : ∃ H, x9.heap.size = H := ⟨_, rfl⟩
        rw [hH] at HOC psz
        clear p0 p1 p2 pf HX10 hH
        go_wp2
        go_loopw [10] (fun i wr => ∃ (j : Nat) (va : Option Addr) (vc : Nat), j ≤ k ∧ i = .int .i64 j ∧ OutC wr H p Ko false (divL (l.take j) (G : Int)) j va vc ∧ UpRow H p x10 wr) (fun i _ => k - (intOf i).toNat)
        case atStart => exact ⟨0, none, 0, by omega, rfl, HOC.out, UpRow.refl _ _ _⟩
        case round =>
          rename World => wz
          obtain ⟨j, va, vc, hj, rfl, hOut, hRow⟩ := hrel
          have hU := UpRow.up HU9.out (by omega : w.heap.size ≤ p) (by omega) hRow
          obtain ⟨o0, o1, o2, of, ol⟩ := hOut.cells
          have HOut := Lib.hid hOut
          have HRow := Lib.hid hRow
          have e1 := (hRow.cell _ 1 (by omega : w.heap.size < H) (by omega)).trans HEA.out.1
          have e2 := (hRow.cell _ 2 (by omega : w.heap.size < H) (by omega)).trans HEA.out.2
          have HDZ : Hid (wz.heap[w.heap.size + 1]? = some (.cells #[.int .i64 0, .slice none 0 0, .bool false] 26 (0, 0))) := Lib.hid ((hRow.block _ (by omega) (by omega)).trans HDA.out)
          have q9 : w.heap.size < wz.heap.size := by omega
          have q8 : w.heap.size + 1 < wz.heap.size := by omega
          clear hOut hRow
          by_cases hlt : j < k
          · have hlt2 : (j : Int) < (k : Int) := by omega
            have hk0 : (0 : Int) ≤ (j : Int) := by omega
            obtain ⟨bl, off, s, y, rfl, p1, p2, p3, p4⟩ := HV.out.elem hU j (by rw [HNL.out]; exact hlt) HNL.out rfl
            have hy : In64 y := by
              have := HRG.out j (by rw [HNL.out]; exact hlt)
              rw [p2] at this; exact this
            obtain ⟨c, hc⟩ : ∃ c, y / (G : Int) = c := ⟨_, rfl⟩
            have hc64 : In64 c := hc ▸ div_in64 (by have := HGP.out; omega) hy
            obtain ⟨hc0, hc1⟩ := hc64
            have HF2 : Hid (∀ x, Calls Tryd.prog 43 #[.int .i64 y, .int .u64 (G : Int)] x fun e w' => e = .returned (.int .i64 c) ∧ w' = x) := Lib.hid fun x => by
              have := HFL.out x y hy
              rw [hc] at this; exact this
            have HO2 : Hid (divL (l.take (j + 1)) (G : Int) = divL (l.take j) (G : Int) ++ [(s, c)]) := Lib.hid (by
              rw [take_snoc (by rw [HNL.out]; exact hlt) p2, divL_snoc, hc])
            have q5 : bl < wz.heap.size := by have := hU.size; omega
            have hkm : (j : Int) ≤ 1000 := by omega
            obtain ⟨y0, y1⟩ := hy
            clear p2 hU hc
            go_wp2_with fail
            refine wp_region_mk 21 (fun _ _ v x => v = .int .i64 c) (by kernel_rfl) (by kernel_rfl) ?_
            simp only [List.take_succ_cons, List.take_zero, List.drop_succ_cons, List.drop_zero]
            iterate 18 (refine wpMk_quiet anti_post (by kernel_rfl) ?_; go_big_quiet_step (fail); refine wpQuiet_nil ?_)
            refine wpMk_enter anti_post 43 #[.int .i64 y, .int .u64 (G : Int)] (fun v x y h hu => h) (by kernel_rfl) (fun x => by go_simp) (fun x hx => (HF2.out x).mono fun e w' ⟨h1, h2⟩ => ⟨_, h1, h2 ▸ Up.refl x, rfl⟩) ?_
            rintro v ⟨yy, hyy, rfl⟩
            simp only [Act.put, List.setIfInBounds_toArray, List.set_cons_succ, List.set_cons_zero]
            refine wpMk_quiet anti_post (by kernel_rfl) ?_; go_big_quiet_step (fail); refine wpQuiet_nil ?_
            refine wpMk_row anti_post #[.string s, .int .i64 c] 56 1 (by kernel_rfl) (fun x => by go_simp) ?_
            intro bb hbb
            simp only [Act.put, List.setIfInBounds_toArray, List.set_cons_succ, List.set_cons_zero]
            refine wpMk_nil ?_
            rintro x5 hx5 ⟨_, hA⟩
            have HO5 := Lib.hid (HOut.out.up hx5)
            have HR5 := Lib.hid (HRow.out.trans (Up.row hx5 (by have := HOut.out.2.2.2.2; omega)))
            have HSL := Lib.hid (mono_sl' hA)
            clear hx5 hA hyy hbb
            go_wp2_with (at_builtin; refine wpList_append_sl _ rfl _ _ 22 rfl H 56 i0 _ 2 24 Tryd.underlying22 hi0 hz0 hz1 hz2 rfl (by decide) (.slice va j vc) j _ rfl HO5.out.2.2.1 (.slice (some ⟨bb, 0, none⟩) 1 1) 1 _ rfl HSL.out (mono_one s c) (by unfold maxLen; omega) (by omega) HO5.out.2.2.2.2 ?_; intro v1 w1 hown1 hg1 hat1 hnil1; obtain ⟨vb, vd, rfl⟩ := own_slice hown1; obtain ⟨d2, d3, HD2, HD3, HD4⟩ := HO5.out.key0 w1 hg1; have HO1 := Lib.hid hown1; clear hown1 hg1 hat1 hnil1)
            obtain ⟨hf1, hf2⟩ := HO5.out.done s c HD2.out HD3.out HD4.out vb vd HO1.out
            try go_wp2
            go_roundw
            case rel => exact ⟨j + 1, vb, vd, by omega, by go_num, by rw [HO2.out]; exact hf1, HR5.out.trans hf2⟩
            case measure => simp [intOf]; omega
          · obtain rfl : j = k := by omega
            have hlt2 : ¬ (j : Int) < (j : Int) := by omega
            have HOD : Hid (OutC wz H p Ko false D j va vc) := Lib.hid (by
              have := HOut.out
              rw [List.take_of_length_le (by rw [HNL.out]; exact Nat.le_refl _), HDD.out] at this; exact this)
            have HUW := Lib.hid hU
            have d0 : wz.cell? ⟨w.heap.size + 1, 0, none⟩ = some (.int .i64 0) := cell_of_row _ _ _ _ _ _ HDZ.out
            have d1 : wz.cell? ⟨w.heap.size + 1, 1, none⟩ = some (.slice none 0 0) := cell_of_row _ _ _ _ _ _ HDZ.out
            have d2 : wz.cell? ⟨w.heap.size + 1, 2, none⟩ = some (.bool false) := cell_of_row _ _ _ _ _ _ HDZ.out
            have df : ∀ o, wz.frozen? ⟨w.heap.size + 1, o, none⟩ = false := fun o => frozen_of_row _ _ _ _ _ HDZ.out
            have q1 : w.heap.size + 1 < wz.heap.size := by omega
            have n1 : (p = w.heap.size) = False := by simp; omega
            have n2 : (w.heap.size = p) = False := by simp; omega
            have n3 : (p = w.heap.size + 1) = False := by simp; omega
            have n4 : (w.heap.size + 1 = p) = False := by simp; omega
            have HPR : Hid (Part wz (.slice va j vc) D) := Lib.hid (HOD.out.part (by omega) HDR.out)
            have HFR : Hid (FreshV w (.slice va j vc)) := Lib.hid (own_fresh HOD.out.2.2.1 (by omega))
            have HFP := Lib.hid (HPR.out.set3 (u0 := .int .i64 Ko) (u1 := .slice va j vc) (u2 := .bool false) HDZ.out (by simp) (by simp) (by simp) (by simp) (by simp) (by simp))
            clear hU HOut
            have HG : Hid (r = ((Ko, D, false), 0, 0)) := Lib.hid HR2.out.symm
            go_wp2
            refine bodyPost_ret (v := .tuple #[.agg #[.int .i64 Ko, .slice va j vc, .bool false], .int .i64 0, .int .i64 0]) (by first | (simp [results, Tryd.results16, go_sem, d0, d1, d2]; done) | (simp [results, Tryd.results16, go_sem, d0, d1, d2, q1]; done) | go_simp) rfl ?_
            rw [HG.out]
            exact ⟨⟨_, rfl, HFP.out, HFR.out⟩, by repeat (first | exact HUW.out | refine HSET.out _ _ _ ?_)⟩
      · subst hb
        rw [Bool.true_and, decide_eq_true (show K % (G : Int) ≠ 0 from fun h => ht (HTD.out.2 h)), if_pos rfl] at HR2
        have HG : Hid (r = ((-1, [], false), 2, 0)) := Lib.hid HR2.out.symm
        have ht2 : (tr != 0) = true := by simpa using ht
        have ht3 : (tr == 0) = false := by simpa using ht
        clear ht hT0 hT1
        go_wp2_with fail
        refine (HSK.out _).mono ?_
        rintro e x3 ⟨rfl, hx3⟩
        replace hx3 := hx3.symm
        subst hx3
        go_wp2_with fail
        refine (r06_never _).mono ?_
        rintro e x2 ⟨rfl, hx2⟩
        replace d0 := (hx2.cell _ _ q1).trans d0
        replace d1 := (hx2.cell _ _ q1).trans d1
        replace d2 := (hx2.cell _ _ q1).trans d2
        replace df := fun o => (hx2.frozen _ o q1).trans (df o)
        replace q1 := Nat.lt_of_lt_of_le q1 hx2.size
        have HU2 := Lib.hid (HU1.out.trans hx2)
        clear hx2
        try clear q0 e0 e1 e2
        go_wp2
        refine bodyPost_ret (v := .tuple #[.agg #[.int .i64 (-1), .slice none 0 0, .bool false], .int .i64 2, .int .i64 0]) (by first | (simp [results, Tryd.results16, go_sem, d0, d1, d2]; done) | (simp [results, Tryd.results16, go_sem, d0, d1, d2, q1]; done) | go_simp) rfl ?_
        rw [HG.out]
        exact ⟨⟨_, rfl, part_nil _, fresh_nil _⟩, by repeat (first | exact HU2.out | refine HSET.out _ _ _ ?_)⟩
      · subst hb
        subst ht
        rw [Bool.true_and, Bool.true_and, decide_eq_false (by simpa using HTD.out.1 rfl), if_neg (by simp)] at HR2
        have h00 : ((0 : Int) != 0) = false := rfl
        clear hT0 hT1 tr0 tr1
        go_wp2_with fail
        refine (HSK.out _).mono ?_
        rintro e x3 ⟨rfl, hx3⟩
        replace hx3 := hx3.symm
        subst hx3
        have HF1 : Hid (∀ x, Calls Tryd.prog 43 #[.int .i64 K, .int .u64 (G : Int)] x fun e w' => e = .returned (.int .i64 Ko) ∧ w' = x) := Lib.hid fun x => by
          have := HFL.out x K HK.out
          rw [HKD.out] at this; exact this
        go_upto_region 16 with fail
        refine wp_region_mk 8 (fun _ _ v x => v = .int .i64 Ko) (by kernel_rfl) (by kernel_rfl) ?_
        simp only [List.take_succ_cons, List.take_zero, List.drop_succ_cons, List.drop_zero]
        iterate 4 (refine wpMk_quiet anti_post (by kernel_rfl) ?_; go_big_quiet_step (fail); refine wpQuiet_nil ?_)
        refine wpMk_enter anti_post 43 #[.int .i64 K, .int .u64 (G : Int)] (fun v x y h hu => h) (by kernel_rfl) (fun x => by go_simp) (fun x hx => (HF1.out x).mono fun e w' ⟨h1, h2⟩ => ⟨_, h1, h2 ▸ Up.refl x, rfl⟩) ?_
        rintro v ⟨y, hy, rfl⟩
        simp only [Act.put, List.setIfInBounds_toArray, List.set_cons_succ, List.set_cons_zero]
        iterate 2 (refine wpMk_quiet anti_post (by kernel_rfl) ?_; go_big_quiet_step (fail); refine wpQuiet_nil ?_)
        refine wpMk_alloc anti_post #[.int .i64 0, .slice none 0 0, .bool false] 26 (by kernel_rfl) (fun x => by go_simp) ?_
        intro p hp
        simp only [Act.put, List.setIfInBounds_toArray, List.set_cons_succ, List.set_cons_zero]
        refine wpMk_nil ?_
        rintro x9 hx9 ⟨_, hA⟩
        have p0 : x9.cell? ⟨p, 0, none⟩ = some (.int .i64 0) := cell_of_row _ _ _ _ _ _ hA
        have p1 : x9.cell? ⟨p, 1, none⟩ = some (.slice none 0 0) := cell_of_row _ _ _ _ _ _ hA
        have p2 : x9.cell? ⟨p, 2, none⟩ = some (.bool false) := cell_of_row _ _ _ _ _ _ hA
        have pf : ∀ o, x9.frozen? ⟨p, o, none⟩ = false := fun o => frozen_of_row _ _ _ _ _ hA
        have psz : p < x9.heap.size := (Array.getElem?_eq_some_iff.1 hA).1
        have hpw : w.heap.size + 1 < p := by omega
        obtain ⟨x10, hx10⟩ : ∃ x, ((x9.setCell ⟨p, 0, none⟩ (.int .i64 Ko)).setCell ⟨p, 1, none⟩ (.slice none 0 0)).setCell ⟨p, 2, none⟩ (.bool true) = x := ⟨_, rfl⟩
        have HOC : Hid (OutC x10 x9.heap.size p Ko true [] 0 none 0) := Lib.hid (hx10 ▸ ⟨rfl, set_heap (set_heap (set_heap hA _) _) _, World.ownsRow_nil _ _ _ _, psz, by rw [set_size, set_size, set_size]; exact Nat.le_refl _⟩)
        have HDA : Hid (x10.heap[w.heap.size + 1]? = some (.cells #[.int .i64 0, .slice none 0 0, .bool false] 26 (0, 0))) := Lib.hid (by
          rw [← hx10, set_heap_ne (by omega), set_heap_ne (by omega), set_heap_ne (by omega), hx9.heap _ (by omega)]
          exact HRB.out)
        have HEA : Hid (x10.cell? ⟨w.heap.size, 1, none⟩ = some (.slice a k cap) ∧ x10.cell? ⟨w.heap.size, 2, none⟩ = some (.bool true)) := Lib.hid (by
          rw [← hx10]
          refine ⟨?_, ?_⟩
          · rw [set_cell_ne (by omega), set_cell_ne (by omega), set_cell_ne (by omega), hx9.cell _ _ (by omega)]
            exact e1
          · rw [set_cell_ne (by omega), set_cell_ne (by omega), set_cell_ne (by omega), hx9.cell _ _ (by omega)]
            exact e2)
        have HU9 : Hid (Up w x10) := Lib.hid (hx10 ▸ ((((HU1.out.trans hx9).setCell (by show w.heap.size ≤ p; omega) _).setCell (by show w.heap.size ≤ p; omega) _).setCell (by show w.heap.size ≤ p; omega) _))
        have HX10 := Lib.hid hx10
        clear hy hA hx9 hp e0 e1 e2 d0 d1 d2 df hx10
        go_upto_region 17 with fail
        rw [HX10.out]
        obtain ⟨H, hH⟩ : ∃ H, x9.heap.size = H := ⟨_, rfl⟩
        rw [hH] at HOC psz
        clear p0 p1 p2 pf HX10 hH
        go_wp2
        go_loopw [10] (fun i wr => ∃ (j : Nat) (va : Option Addr) (vc : Nat), j ≤ k ∧ i = .int .i64 j ∧ OutC wr H p Ko true (divL (l.take j) (G : Int)) j va vc ∧ UpRow H p x10 wr) (fun i _ => k - (intOf i).toNat)
        case atStart => exact ⟨0, none, 0, by omega, rfl, HOC.out, UpRow.refl _ _ _⟩
        case round =>
          rename World => wz
          obtain ⟨j, va, vc, hj, rfl, hOut, hRow⟩ := hrel
          have hU := UpRow.up HU9.out (by omega : w.heap.size ≤ p) (by omega) hRow
          obtain ⟨o0, o1, o2, of, ol⟩ := hOut.cells
          have HOut := Lib.hid hOut
          have HRow := Lib.hid hRow
          have e1 := (hRow.cell _ 1 (by omega : w.heap.size < H) (by omega)).trans HEA.out.1
          have e2 := (hRow.cell _ 2 (by omega : w.heap.size < H) (by omega)).trans HEA.out.2
          have HDZ : Hid (wz.heap[w.heap.size + 1]? = some (.cells #[.int .i64 0, .slice none 0 0, .bool false] 26 (0, 0))) := Lib.hid ((hRow.block _ (by omega) (by omega)).trans HDA.out)
          have q9 : w.heap.size < wz.heap.size := by omega
          have q8 : w.heap.size + 1 < wz.heap.size := by omega
          clear hOut hRow
          by_cases hlt : j < k
          · have hlt2 : (j : Int) < (k : Int) := by omega
            have hk0 : (0 : Int) ≤ (j : Int) := by omega
            obtain ⟨bl, off, s, y, rfl, p1, p2, p3, p4⟩ := HV.out.elem hU j (by rw [HNL.out]; exact hlt) HNL.out rfl
            have hy : In64 y := by
              have := HRG.out j (by rw [HNL.out]; exact hlt)
              rw [p2] at this; exact this
            obtain ⟨c, hc⟩ : ∃ c, y / (G : Int) = c := ⟨_, rfl⟩
            have hc64 : In64 c := hc ▸ div_in64 (by have := HGP.out; omega) hy
            obtain ⟨hc0, hc1⟩ := hc64
            have HF2 : Hid (∀ x, Calls Tryd.prog 43 #[.int .i64 y, .int .u64 (G : Int)] x fun e w' => e = .returned (.int .i64 c) ∧ w' = x) := Lib.hid fun x => by
              have := HFL.out x y hy
              rw [hc] at this; exact this
            have HO2 : Hid (divL (l.take (j + 1)) (G : Int) = divL (l.take j) (G : Int) ++ [(s, c)]) := Lib.hid (by
              rw [take_snoc (by rw [HNL.out]; exact hlt) p2, divL_snoc, hc])
            have q5 : bl < wz.heap.size := by have := hU.size; omega
            have hkm : (j : Int) ≤ 1000 := by omega
            obtain ⟨y0, y1⟩ := hy
            clear p2 hU hc
            go_wp2_with fail
            refine wp_region_mk 21 (fun _ _ v x => v = .int .i64 c) (by kernel_rfl) (by kernel_rfl) ?_
            simp only [List.take_succ_cons, List.take_zero, List.drop_succ_cons, List.drop_zero]
            iterate 18 (refine wpMk_quiet anti_post (by kernel_rfl) ?_; go_big_quiet_step (fail); refine wpQuiet_nil ?_)
            refine wpMk_enter anti_post 43 #[.int .i64 y, .int .u64 (G : Int)] (fun v x y h hu => h) (by kernel_rfl) (fun x => by go_simp) (fun x hx => (HF2.out x).mono fun e w' ⟨h1, h2⟩ => ⟨_, h1, h2 ▸ Up.refl x, rfl⟩) ?_
            rintro v ⟨yy, hyy, rfl⟩
            simp only [Act.put, List.setIfInBounds_toArray, List.set_cons_succ, List.set_cons_zero]
            refine wpMk_quiet anti_post (by kernel_rfl) ?_; go_big_quiet_step (fail); refine wpQuiet_nil ?_
            refine wpMk_row anti_post #[.string s, .int .i64 c] 56 1 (by kernel_rfl) (fun x => by go_simp) ?_
            intro bb hbb
            simp only [Act.put, List.setIfInBounds_toArray, List.set_cons_succ, List.set_cons_zero]
            refine wpMk_nil ?_
            rintro x5 hx5 ⟨_, hA⟩
            have HO5 := Lib.hid (HOut.out.up hx5)
            have HR5 := Lib.hid (HRow.out.trans (Up.row hx5 (by have := HOut.out.2.2.2.2; omega)))
            have HSL := Lib.hid (mono_sl' hA)
            clear hx5 hA hyy hbb
            go_wp2_with (at_builtin; refine wpList_append_sl _ rfl _ _ 22 rfl H 56 i0 _ 2 24 Tryd.underlying22 hi0 hz0 hz1 hz2 rfl (by decide) (.slice va j vc) j _ rfl HO5.out.2.2.1 (.slice (some ⟨bb, 0, none⟩) 1 1) 1 _ rfl HSL.out (mono_one s c) (by unfold maxLen; omega) (by omega) HO5.out.2.2.2.2 ?_; intro v1 w1 hown1 hg1 hat1 hnil1; obtain ⟨vb, vd, rfl⟩ := own_slice hown1; obtain ⟨d2, d3, HD2, HD3, HD4⟩ := HO5.out.key0 w1 hg1; have HO1 := Lib.hid hown1; clear hown1 hg1 hat1 hnil1)
            obtain ⟨hf1, hf2⟩ := HO5.out.done s c HD2.out HD3.out HD4.out vb vd HO1.out
            try go_wp2
            go_roundw
            case rel => exact ⟨j + 1, vb, vd, by omega, by go_num, by rw [HO2.out]; exact hf1, HR5.out.trans hf2⟩
            case measure => simp [intOf]; omega
          · obtain rfl : j = k := by omega
            have hlt2 : ¬ (j : Int) < (j : Int) := by omega
            have HOD : Hid (OutC wz H p Ko true D j va vc) := Lib.hid (by
              have := HOut.out
              rw [List.take_of_length_le (by rw [HNL.out]; exact Nat.le_refl _), HDD.out] at this; exact this)
            have HUW := Lib.hid hU
            have d0 : wz.cell? ⟨w.heap.size + 1, 0, none⟩ = some (.int .i64 0) := cell_of_row _ _ _ _ _ _ HDZ.out
            have d1 : wz.cell? ⟨w.heap.size + 1, 1, none⟩ = some (.slice none 0 0) := cell_of_row _ _ _ _ _ _ HDZ.out
            have d2 : wz.cell? ⟨w.heap.size + 1, 2, none⟩ = some (.bool false) := cell_of_row _ _ _ _ _ _ HDZ.out
            have df : ∀ o, wz.frozen? ⟨w.heap.size + 1, o, none⟩ = false := fun o => frozen_of_row _ _ _ _ _ HDZ.out
            have q1 : w.heap.size + 1 < wz.heap.size := by omega
            have n1 : (p = w.heap.size) = False := by simp; omega
            have n2 : (w.heap.size = p) = False := by simp; omega
            have n3 : (p = w.heap.size + 1) = False := by simp; omega
            have n4 : (w.heap.size + 1 = p) = False := by simp; omega
            have HPR : Hid (Part wz (.slice va j vc) D) := Lib.hid (HOD.out.part (by omega) HDR.out)
            have HFR : Hid (FreshV w (.slice va j vc)) := Lib.hid (own_fresh HOD.out.2.2.1 (by omega))
            have HFP := Lib.hid (HPR.out.set3 (u0 := .int .i64 Ko) (u1 := .slice va j vc) (u2 := .bool true) HDZ.out (by simp) (by simp) (by simp) (by simp) (by simp) (by simp))
            clear hU HOut
            obtain ⟨gg, cp, hv', hgb, hgl, _, hgf, hcl⟩ := own_get HOD.out.2.2.1 HNP.out
            obtain ⟨rfl, rfl⟩ : va = some ⟨gg, 0, none⟩ ∧ vc = cp := by
              simp only [Value.slice.injEq] at hv'
              exact ⟨hv'.1, hv'.2.2⟩
            obtain ⟨z, hz⟩ : ∃ z, (D.getD 0 m0).2 = z := ⟨_, rfl⟩
            have h1c : wz.cell? ⟨gg, 1, none⟩ = some (.int .i64 z) := hcl 1 _ (by
              have := monoCells_get D 0 1 (by rw [HDL.out]; exact HNP.out) (by omega)
              rw [Nat.zero_mul, Nat.zero_add] at this
              rw [this, ← hz]; rfl)
            have HZ : Hid ((z < 0 ↔ (l.getD 0 m0).2 < 0) ∧ z ≠ 0) := Lib.hid (by rw [← hz]; exact HD0.out.2)
            have HCL := Lib.hid hcl
            have h0n : (0 : Int) < (j : Int) := by have := HNP.out; omega
            have hgO : (gg = p) = False := by simp; omega
            have hgO2 : (p = gg) = False := by simp; omega
            clear hv' hz hcl
            by_cases hzp : 0 < z
            · have HG : Hid (r = ((Ko, D, true), 0, 0)) := Lib.hid (by
                rw [← HR2.out, if_neg]
                exact fun h => absurd (HZ.out.1.2 (of_decide_eq_true h)) (by omega))
              go_wp2
              refine bodyPost_ret (v := .tuple #[.agg #[.int .i64 Ko, .slice (some ⟨gg, 0, none⟩) j vc, .bool true], .int .i64 0, .int .i64 0]) (by first | (simp [results, Tryd.results16, go_sem, d0, d1, d2]; done) | (simp [results, Tryd.results16, go_sem, d0, d1, d2, q1]; done) | go_simp) rfl ?_
              rw [HG.out]
              exact ⟨⟨_, rfl, HFP.out, HFR.out⟩, by repeat (first | exact HUW.out | refine HSET.out _ _ _ ?_)⟩
            have hzneg : z < 0 := by have := HZ.out.2; omega
            have HR3 : Hid ((if decide (Ko ≠ -9223372036854775808) && negFit D then ((-Ko, negL D, true), 0, 0) else ((c0, 0, 3) : Con × Int × Int)) = r) := Lib.hid (by
              rw [← HR2.out, if_pos (decide_eq_true (HZ.out.1.1 hzneg))])
            clear HFP
            by_cases hmin : Ko = -9223372036854775808
            · have HG : Hid (r = ((0, [], false), 0, 3)) := Lib.hid (by rw [← HR3.out, if_neg (by simp [hmin])])
              subst hmin
              go_wp2
              refine bodyPost_ret (v := .tuple #[.agg #[.int .i64 0, .slice none 0 0, .bool false], .int .i64 0, .int .i64 3]) (by first | (simp [results, Tryd.results16, go_sem, d0, d1, d2]; done) | (simp [results, Tryd.results16, go_sem, d0, d1, d2, q1]; done) | go_simp) rfl ?_
              rw [HG.out]
              exact ⟨⟨_, rfl, part_nil _, fresh_nil _⟩, by repeat (first | exact HUW.out | refine HSET.out _ _ _ ?_)⟩
            have hmn : (Ko == -9223372036854775808) = false := by simpa using hmin
            obtain ⟨Kn, hKn⟩ : ∃ x, -Ko = x := ⟨_, rfl⟩
            have hKn64 : In64 Kn := by have := HKO.out; unfold In64 at this ⊢; omega
            obtain ⟨kn0, kn1⟩ := hKn64
            have HR4 : Hid ((if negFit D then ((Kn, negL D, true), 0, 0) else ((c0, 0, 3) : Con × Int × Int)) = r) := Lib.hid (by
              rw [← HR3.out, decide_eq_true hmin, Bool.true_and, hKn])
            obtain ⟨W5, hW5⟩ : ∃ x, wz.setCell ⟨p, 0, none⟩ (.int .i64 Kn) = x := ⟨_, rfl⟩
            have HO5 : Hid (OutC W5 H p Kn true D j (some ⟨gg, 0, none⟩) vc) := Lib.hid (hW5 ▸ HOD.out.setK)
            have HR5 : Hid (UpRow H p x10 W5) := Lib.hid (hW5 ▸ HRow.out.set 0 _)
            have HW5 := Lib.hid hW5
            obtain ⟨ko0, ko1⟩ := HKO.out
            clear hmin hW5 HR2 HR3
            go_upto_region 26 with fail
            try rw [show -Ko = Kn from hKn]
            rw [HW5.out]
            clear d0 d1 d2 df o0 o1 o2 of e1 e2 hgf hKn ko0 ko1 HW5 h1c hzp hzneg
            go_wp2
            go_loopw [11] (fun i wr => ∃ (m : Nat), m ≤ j ∧ i = .int .i64 m ∧ negFit (D.take m) = true ∧ OutC wr H p Kn true (negL (D.take m) ++ D.drop m) j (some ⟨gg, 0, none⟩) vc ∧ UpRow H p x10 wr) (fun i _ => j - (intOf i).toNat)
            case atStart => exact ⟨0, by omega, rfl, by simp [negFit], by rw [List.take_zero, List.drop_zero]; exact HO5.out, HR5.out⟩
            case round =>
              rename World => wy
              obtain ⟨m, hm, rfl, hft, hOut, hRow⟩ := hrel
              have HFT := Lib.hid hft
              have HOut := Lib.hid hOut
              have HRow := Lib.hid hRow
              have hU := UpRow.up HU9.out (by omega : w.heap.size ≤ p) (by omega) hRow
              have HUY := Lib.hid hU
              obtain ⟨o0, o1, o2, of, ol⟩ := hOut.cells
              have HDY : Hid (wy.heap[w.heap.size + 1]? = some (.cells #[.int .i64 0, .slice none 0 0, .bool false] 26 (0, 0))) := Lib.hid ((hRow.block _ (by omega) (by omega)).trans HDA.out)
              have d0 : wy.cell? ⟨w.heap.size + 1, 0, none⟩ = some (.int .i64 0) := cell_of_row _ _ _ _ _ _ HDY.out
              have d1 : wy.cell? ⟨w.heap.size + 1, 1, none⟩ = some (.slice none 0 0) := cell_of_row _ _ _ _ _ _ HDY.out
              have d2 : wy.cell? ⟨w.heap.size + 1, 2, none⟩ = some (.bool false) := cell_of_row _ _ _ _ _ _ HDY.out
              have df : ∀ o, wy.frozen? ⟨w.heap.size + 1, o, none⟩ = false := fun o => frozen_of_row _ _ _ _ _ HDY.out
              have q1 : w.heap.size + 1 < wy.heap.size := by omega
              obtain ⟨g2, cp, hv', hgb, hgl2, _, hgf, hcl⟩ := own_get hOut.2.2.1 HNP.out
              obtain ⟨rfl, rfl⟩ : gg = g2 ∧ vc = cp := by
                simp only [Value.slice.injEq, Option.some.injEq, Addr.mk.injEq] at hv'
                exact ⟨hv'.1.1, hv'.2.2⟩
              have HCL := Lib.hid hcl
              clear hft hOut hRow hU hv' hcl
              by_cases hlt : m < j
              · have hlt2 : (m : Int) < (j : Int) := by omega
                have hm0 : (0 : Int) ≤ (m : Int) := by omega
                obtain ⟨⟨s, z'⟩, hsz⟩ : ∃ x, D.getD m m0 = x := ⟨_, rfl⟩
                have HSZ2 := Lib.hid hsz
                have HNX := Lib.hid (neg_next (l := D) (by rw [HDL.out]; exact hlt) hsz)
                have hc1 : wy.cell? ⟨gg, m * 2 + 1, none⟩ = some (.int .i64 z') := HCL.out (m * 2 + 1) _ (by
                  rw [monoCells_get _ m 1 (by rw [← HOut.out.1]; exact hlt) (by omega)]
                  show some (Value.int .i64 ((negL (List.take m D) ++ List.drop m D).getD m m0).2) = _
                  rw [HNX.out.1])
                have hz64 : In64 z' := by
                  have := HDR.out m (by rw [HDL.out]; exact hlt)
                  rw [hsz] at this; exact this
                obtain ⟨z0, z1⟩ := hz64
                have HMEM : Hid ((s, z') ∈ D) := Lib.hid (by
                  have h9 : m < D.length := by rw [HDL.out]; exact hlt
                  rw [List.getD_eq_getElem?_getD, List.getElem?_eq_getElem h9] at hsz
                  exact hsz ▸ List.getElem_mem h9)
                clear hsz
                by_cases hzm : z' = -9223372036854775808
                · subst hzm
                  have HG : Hid (r = ((0, [], false), 0, 3)) := Lib.hid (by
                    rw [← HR4.out]
                    rw [if_neg]
                    unfold negFit
                    rw [List.all_eq_true]
                    exact fun h => by have := h _ HMEM.out; simp at this)
                  go_wp2
                  refine bodyPost_ret (v := .tuple #[.agg #[.int .i64 0, .slice none 0 0, .bool false], .int .i64 0, .int .i64 3]) (by first | (simp [results, Tryd.results16, go_sem, d0, d1, d2]; done) | (simp [results, Tryd.results16, go_sem, d0, d1, d2, q1]; done) | go_simp) rfl ?_
                  rw [HG.out]
                  exact ⟨⟨_, rfl, part_nil _, fresh_nil _⟩, by repeat (first | exact HUY.out | refine HSET.out _ _ _ ?_)⟩
                have hzn : (z' == -9223372036854775808) = false := by simpa using hzm
                obtain ⟨zn, hzn2⟩ : ∃ x, -z' = x := ⟨_, rfl⟩
                have zn0 : -9223372036854775808 ≤ zn := by omega
                have zn1 : zn ≤ 9223372036854775807 := by omega
                have HZN := Lib.hid hzn2
                have HST : Hid (OutC (wy.setCell ⟨gg, m * 2 + 1, none⟩ (.int .i64 zn)) H p Kn true (negL (D.take (m + 1)) ++ D.drop (m + 1)) j (some ⟨gg, 0, none⟩) vc ∧ UpRow H p wy (wy.setCell ⟨gg, m * 2 + 1, none⟩ (.int .i64 zn))) := Lib.hid (by
                  have := HOut.out.setBy m hlt s z' zn HNX.out.1
                  have h2 := HNX.out.2
                  rw [hzn2] at h2
                  rw [h2] at this
                  exact this)
                have HF3 : Hid (negFit (D.take (m + 1)) = true) := Lib.hid (by
                  rw [take_snoc (by rw [HDL.out]; exact hlt) HSZ2.out, negFit_snoc, HFT.out]; simpa using hzm)
                have hw1 : IntKind.i64.wrap zn = zn := by rw [IntKind.wrap_i64]; omega
                clear hzm HNX HMEM
                go_wp2_with fail
                go_region
                all_goals
                  go_wp2
                  go_roundw
                  case rel => exact ⟨m + 1, by omega, by go_num, HF3.out, HST.out.1.up ((Up.refl _).drew), HRow.out.trans (HST.out.2.trans (Up.row ((Up.refl _).drew) (by rw [set_size]; exact HOut.out.2.2.2.2)))⟩
                  case measure => simp [intOf]; omega
              · obtain rfl : m = j := by omega
                have hlt2 : ¬ (m : Int) < (m : Int) := by omega
                have hta : D.take m = D := List.take_of_length_le (by rw [HDL.out]; exact Nat.le_refl _)
                have htd : D.drop m = [] := List.drop_eq_nil_of_le (by rw [HDL.out]; exact Nat.le_refl _)
                have HFA : Hid (negFit D = true) := Lib.hid (by have := HFT.out; rw [hta] at this; exact this)
                have HOA : Hid (OutC wy H p Kn true (negL D) m (some ⟨gg, 0, none⟩) vc) := Lib.hid (by
                  have := HOut.out
                  rw [hta, htd, List.append_nil] at this; exact this)
                have HG : Hid (r = ((Kn, negL D, true), 0, 0)) := Lib.hid (by rw [← HR4.out, if_pos HFA.out])
                have HPN : Hid (Part wy (.slice (some ⟨gg, 0, none⟩) m vc) (negL D)) := Lib.hid (HOA.out.part (by omega) (negL_rng HDR.out.mem HFA.out))
                have HFP := Lib.hid (HPN.out.set3 (u0 := .int .i64 Kn) (u1 := .slice (some ⟨gg, 0, none⟩) m vc) (u2 := .bool true) HDY.out (by simp) (by simp) (by simp) (by simp) (by simp) (by simp))
                clear hta htd
                go_wp2
                refine bodyPost_ret (v := .tuple #[.agg #[.int .i64 Kn, .slice (some ⟨gg, 0, none⟩) m vc, .bool true], .int .i64 0, .int .i64 0]) (by first | (simp [results, Tryd.results16, go_sem, d0, d1, d2]; done) | (simp [results, Tryd.results16, go_sem, d0, d1, d2, q1]; done) | go_simp) rfl ?_
                rw [HG.out]
                exact ⟨⟨_, rfl, HFP.out, HFR.out⟩, by repeat (first | exact HUY.out | refine HSET.out _ _ _ ?_)⟩
end Go.Proofs.YtahlecmlhdikjaaDoor
