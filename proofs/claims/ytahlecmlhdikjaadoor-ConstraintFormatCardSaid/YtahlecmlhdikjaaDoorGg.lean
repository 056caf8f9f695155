/-
  Joined by a program: CoTp, CoM.
-/
import Derived.Test.YtahlecmlhdikjaaDoorCoN
import Derived.BigRegion

section
namespace Go.Proofs.YtahlecmlhdikjaaDoor
open Go.ChangeShapes Go.WideShapes Go.ChangeAt Go.RowKit
set_option linter.unusedVariables false
set_option linter.unusedSimpArgs false

theorem div_sign {a g : Int} (hg : 0 < g) (hd : g ∣ a) : (a / g < 0 ↔ a < 0) ∧ (a / g = 0 ↔ a = 0) := by
  obtain ⟨t, rfl⟩ := hd
  rw [Int.mul_ediv_cancel_left _ (by omega)]
  refine ⟨⟨fun h => Int.mul_neg_of_pos_of_neg hg h, fun h => ?_⟩, ⟨fun h => by rw [h]; simp, fun h => ?_⟩⟩
  · rcases Int.lt_or_le t 0 with h' | h'
    · exact h'
    · have := Int.mul_nonneg (Int.le_of_lt hg) h'; omega
  · rcases Int.mul_eq_zero.1 h with h' | h' <;> omega
theorem div_in64 {a g : Int} (hg : 0 < g) (ha : In64 a) : In64 (a / g) := by
  obtain ⟨h0, h1⟩ := ha
  refine ⟨?_, ?_⟩
  · rw [Int.le_ediv_iff_mul_le hg]
    have : -9223372036854775808 * g ≤ -9223372036854775808 * 1 := Int.mul_le_mul_of_nonpos_left (by omega) (by omega)
    omega
  · have := Int.ediv_le_ediv hg h1
    have h2 : (9223372036854775807 : Int) / g ≤ 9223372036854775807 := Int.ediv_le_self _ (by omega)
    omega
theorem divL_rng {l : List Mono} {g : Int} (hg : 0 < g) (h : ∀ m ∈ l, In64 m.2) : Rng (divL l g) := fun k hk => by
  have : (divL l g).getD k m0 ∈ divL l g := by
    rw [List.getD_eq_getElem?_getD, List.getElem?_eq_getElem hk]; exact List.getElem_mem hk
  obtain ⟨m, hm, he⟩ := List.mem_map.1 this
  rw [← he]
  exact div_in64 hg (h m hm)
theorem divL_ok {g : Int} (hg : 0 < g) : ∀ (l : List Mono) (p : Option (List UInt8)), okFrom p l = true → (∀ m ∈ l, g ∣ m.2) → okFrom p (divL l g) = true := by
  intro l
  induction l with
  | nil => exact fun _ _ _ => rfl
  | cons m r ih =>
    intro p h hd
    obtain ⟨h1, h2, h3, h4⟩ := (okFrom_cons p m r).1 h
    show okFrom p ((m.1, m.2 / g) :: divL r g) = true
    refine (okFrom_cons _ _ _).2 ⟨h1, fun e => h2 ((div_sign hg (hd m (by simp))).2.1 e), h3, ih _ h4 fun x hx => hd x (by simp [hx])⟩
theorem fit_neg {n : Int} (h : In64 n) : fitB (n * -1) = decide (n ≠ -9223372036854775808) := by
  obtain ⟨h0, h1⟩ := h
  unfold fitB
  rw [Bool.eq_iff_iff]
  simp
  omega
theorem allFit_neg {l : List Mono} (h : ∀ m ∈ l, In64 m.2) : allFit (-1) l = negFit l := by
  unfold allFit negFit
  induction l with
  | nil => rfl
  | cons m r ih =>
    simp only [List.all_cons]
    rw [fit_neg (h m (by simp)), ih fun x hx => h x (by simp [hx])]
theorem outL_neg {l : List Mono} (h : ∀ m ∈ l, In64 m.2) (hf : negFit l = true) : outL (-1) l = negL l := by
  unfold outL negL
  refine List.map_congr_left fun m hm => ?_
  have h2 := List.all_eq_true.1 hf m hm
  have h3 : fitB (m.2 * -1) = true := by rw [fit_neg (h m hm)]; exact h2
  unfold mulR
  rw [h3]
  simp
theorem scale_neg {K : Int} {l : List Mono} (hK : In64 K) (h : ∀ m ∈ l, In64 m.2) (hl : okL l = true) :
    scaleF K l (-1) = if decide (K ≠ -9223372036854775808) && negFit l then (-K, negL l, 0) else (0, [], 3) := by
  unfold scaleF
  rw [if_pos hl, if_neg (by decide), fit_neg hK, allFit_neg h]
  cases hb : (decide (K ≠ -9223372036854775808) && negFit l)
  · rfl
  · rw [outL_neg h (Bool.and_eq_true_iff.1 hb).2]; simp
theorem head_getD {l : List Mono} (h0 : l.length ≠ 0) (g : Int) : ((divL l g).getD 0 m0).2 = (l.getD 0 m0).2 / g := by
  cases l with
  | nil => exact absurd rfl h0
  | cons m r => rfl
theorem head_mem {l : List Mono} (h0 : l.length ≠ 0) : l.getD 0 m0 ∈ l := by
  cases l with
  | nil => exact absurd rfl h0
  | cons m r => simp
/-- A cell of another form is not in this block. -/
theorem cell_ne {x : World} {p b o : Nat} {cs : Array Value} {t : TypeId} {v : Value} (hA : x.heap[p]? = some (.cells cs t (0, 0))) (h : x.cell? ⟨b, o, none⟩ = some v) (hv : ∀ i : Nat, cs[i]? ≠ some v) : b ≠ p := fun e => by
  subst e
  unfold World.cell? at h
  simp [hA] at h
  exact hv o h
theorem set_heap_ne {w : World} {b c o : Nat} {u : Value} (h : b ≠ c) : (w.setCell ⟨b, o, none⟩ u).heap[c]? = w.heap[c]? := by
  simp [World.setCell, Array.getElem?_modify, h]
theorem set_cell_ne {w : World} {b c o o' : Nat} {u : Value} (h : b ≠ c) : (w.setCell ⟨b, o, none⟩ u).cell? ⟨c, o', none⟩ = w.cell? ⟨c, o', none⟩ := World.cell?_setCell_other _ _ _ _ (fun e => h (congrArg Addr.block e))
theorem Part.apart {x : World} {v : Value} {D : List Mono} {p : Nat} {t : TypeId} {cs : Array Value} (h : Part x v D) (hA : x.heap[p]? = some (.cells cs t (0, 0))) (hs : ∀ (i : Nat) s, cs[i]? ≠ some (.string s)) (o : Nat) (u : Value) : Part (x.setCell ⟨p, o, none⟩ u) v D := by
  obtain ⟨⟨⟨a, cap, hv, h0, hc⟩, hm⟩, h2, h3⟩ := h
  refine ⟨⟨⟨a, cap, hv, h0, fun y hy hl => ?_⟩, hm⟩, h2, h3⟩
  obtain ⟨g1, g2, g3⟩ := hc y hy hl
  have hne : p ≠ y.block := fun e => by
    have h1 := g3 0 0 hl (by omega)
    exact cell_ne hA h1 (fun i => hs i _) e.symm
  exact ⟨g1, by rw [set_size]; exact g2, fun i j hi hj => (set_cell_ne hne).trans (g3 i j hi hj)⟩
theorem nostr3 {c0 c1 c2 : Value} (h0 : ∀ s, c0 ≠ .string s) (h1 : ∀ s, c1 ≠ .string s) (h2 : ∀ s, c2 ≠ .string s) : ∀ (i : Nat) s, (#[c0, c1, c2] : Array Value)[i]? ≠ some (.string s) := by
  intro i s
  rcases i with _ | _ | _ | i <;> simp
  · exact h0 s
  · exact h1 s
  · exact h2 s
theorem Part.set2 {x : World} {v : Value} {D : List Mono} {p : Nat} {t : TypeId} {c0 c1 c2 u0 u1 : Value} (h : Part x v D) (hA : x.heap[p]? = some (.cells #[c0, c1, c2] t (0, 0))) (h0 : ∀ s, c0 ≠ .string s) (h1 : ∀ s, c1 ≠ .string s) (h2 : ∀ s, c2 ≠ .string s) (g0 : ∀ s, u0 ≠ .string s) (g1 : ∀ s, u1 ≠ .string s) :
    Part ((x.setCell ⟨p, 0, none⟩ u0).setCell ⟨p, 1, none⟩ u1) v D :=
  (h.apart hA (nostr3 h0 h1 h2) 0 u0).apart (cs := #[u0, c1, c2]) (set_heap hA u0) (nostr3 g0 h1 h2) 1 u1
theorem Part.set3 {x : World} {v : Value} {D : List Mono} {p : Nat} {t : TypeId} {c0 c1 c2 u0 u1 u2 : Value} (h : Part x v D) (hA : x.heap[p]? = some (.cells #[c0, c1, c2] t (0, 0))) (h0 : ∀ s, c0 ≠ .string s) (h1 : ∀ s, c1 ≠ .string s) (h2 : ∀ s, c2 ≠ .string s) (g0 : ∀ s, u0 ≠ .string s) (g1 : ∀ s, u1 ≠ .string s) (g2 : ∀ s, u2 ≠ .string s) :
    Part (((x.setCell ⟨p, 0, none⟩ u0).setCell ⟨p, 1, none⟩ u1).setCell ⟨p, 2, none⟩ u2) v D :=
  (h.set2 hA h0 h1 h2 g0 g1).apart (cs := #[u0, u1, c2]) (set_heap (set_heap hA u0) u1) (nostr3 g0 g1 h2) 2 u2
end Go.Proofs.YtahlecmlhdikjaaDoor
end

section
namespace Go.Proofs.YtahlecmlhdikjaaDoor
open Go.ChangeShapes Go.WideShapes Go.ChangeAt Go.RowKit
set_option linter.unusedVariables false
set_option linter.unusedSimpArgs false
set_option maxRecDepth 100000
def conEq (c c' : Con) : Bool := decide (c.2.2 = c'.2.2) && eqForm c.1 c'.1 c.2.1 c'.2.1
theorem conEq_iff (c c' : Con) : conEq c c' = true ↔ c = c' := by
  obtain ⟨K, l, b⟩ := c
  obtain ⟨K', l', b'⟩ := c'
  unfold conEq eqForm eqM
  simp
  constructor
  · rintro ⟨h1, h2, h3⟩; exact ⟨h2, h3, h1⟩
  · rintro ⟨h1, h2, h3⟩; exact ⟨h3, h1, h2⟩
theorem base_Con (K K' : Int) (v v' : Value) (l l' : List Mono) (b b' : Bool) (w : World) (hv : MonosAt w v l) (hv' : MonosAt w v' l') :
    Calls Tryd.prog 17 #[.agg #[.int .i64 K, v, .bool b], .agg #[.int .i64 K', v', .bool b']] w fun e w' => e = .returned (.bool (conEq (K, l, b) (K', l', b'))) ∧ Up w w' := by
  obtain ⟨r, hr⟩ : ∃ r, conEq (K, l, b) (K', l', b') = r := ⟨_, rfl⟩
  rw [hr]
  obtain ⟨q, hq⟩ : ∃ q, eqForm K K' l l' = q := ⟨_, rfl⟩
  have HR : Hid ((decide (b = b') && q) = r) := Lib.hid (by rw [← hr, ← hq]; rfl)
  have HC : Hid (∀ w, MonosAt w v l → MonosAt w v' l' → Calls Tryd.prog 44 #[.agg #[.int .i64 K, v], .agg #[.int .i64 K', v']] w fun e w' => e = .returned (.bool q) ∧ Up w w') := Lib.hid fun w h h' => hq ▸ base_Lin K K' v v' l l' w h h'
  have HV := Lib.hid hv
  have HV' := Lib.hid hv'
  obtain ⟨a, cap, rfl⟩ := hv.slice
  obtain ⟨a', cap', rfl⟩ := hv'.slice
  obtain ⟨n, hn⟩ : ∃ n, l.length = n := ⟨_, rfl⟩
  obtain ⟨n', hn'⟩ : ∃ n', l'.length = n' := ⟨_, rfl⟩
  rw [hn] at HV HC ⊢
  rw [hn'] at HV' HC ⊢
  clear hv hv' hr hn hn' hq
  rcases b with _ | _ <;> rcases b' with _ | _
  · have HG : Hid (q = r) := Lib.hid (by have := HR.out; simpa using this)
    go_enter Tryd.func17, Tryd.ntmps17
    go_wp2_with fail
    refine (HC.out _ (HV.out.up (((Up.refl w).alloc _).alloc _)) (HV'.out.up (((Up.refl w).alloc _).alloc _))).mono ?_
    rintro e x ⟨rfl, hx⟩
    go_wp2
    go_ret
    exact ⟨ret_bool (by rw [← HG.out]), (((Up.refl w).alloc _).alloc _).trans hx⟩
  · have HG : Hid (false = r) := Lib.hid (by have := HR.out; simpa using this)
    go_enter Tryd.func17, Tryd.ntmps17
    go_wp2
    go_ret
    exact ⟨ret_bool HG.out, ((Up.refl w).alloc _).alloc _⟩
  · have HG : Hid (false = r) := Lib.hid (by have := HR.out; simpa using this)
    go_enter Tryd.func17, Tryd.ntmps17
    go_wp2
    go_ret
    exact ⟨ret_bool HG.out, ((Up.refl w).alloc _).alloc _⟩
  · have HG : Hid (q = r) := Lib.hid (by have := HR.out; simpa using this)
    go_enter Tryd.func17, Tryd.ntmps17
    go_wp2_with fail
    refine (HC.out _ (HV.out.up (((Up.refl w).alloc _).alloc _)) (HV'.out.up (((Up.refl w).alloc _).alloc _))).mono ?_
    rintro e x ⟨rfl, hx⟩
    go_wp2
    go_ret
    exact ⟨ret_bool (by rw [← HG.out]), (((Up.refl w).alloc _).alloc _).trans hx⟩
theorem con_Same (K K' : Int) (v v' : Value) (l l' : List Mono) (b b' : Bool) (w : World) (hv : MonosAt w v l) (hv' : MonosAt w v' l') :
    Calls Tryd.prog 28 #[.agg #[.int .i64 K, v, .bool b], .agg #[.int .i64 K', v', .bool b']] w fun e w' => e = .returned (.bool (conEq (K, l, b) (K', l', b'))) ∧ Up w w' := by
  obtain ⟨r, hr⟩ : ∃ r, conEq (K, l, b) (K', l', b') = r := ⟨_, rfl⟩
  rw [hr]
  obtain ⟨q, hq⟩ : ∃ q, eqForm K K' l l' = q := ⟨_, rfl⟩
  have HR : Hid ((decide (b = b') && q) = r) := Lib.hid (by rw [← hr, ← hq]; rfl)
  have HC : Hid (∀ w, MonosAt w v l → MonosAt w v' l' → Calls Tryd.prog 56 #[.agg #[.int .i64 K, v], .agg #[.int .i64 K', v']] w fun e w' => e = .returned (.bool q) ∧ Up w w') := Lib.hid fun w h h' => hq ▸ lin_Same K K' v v' l l' w h h'
  have HV := Lib.hid hv
  have HV' := Lib.hid hv'
  obtain ⟨a, cap, rfl⟩ := hv.slice
  obtain ⟨a', cap', rfl⟩ := hv'.slice
  obtain ⟨n, hn⟩ : ∃ n, l.length = n := ⟨_, rfl⟩
  obtain ⟨n', hn'⟩ : ∃ n', l'.length = n' := ⟨_, rfl⟩
  rw [hn] at HV HC ⊢
  rw [hn'] at HV' HC ⊢
  clear hv hv' hr hn hn' hq
  rcases b with _ | _ <;> rcases b' with _ | _
  · have HG : Hid (q = r) := Lib.hid (by have := HR.out; simpa using this)
    go_enter Tryd.func28, Tryd.ntmps28
    go_wp2_with fail
    refine (HC.out _ (HV.out.up (((Up.refl w).alloc _).alloc _)) (HV'.out.up (((Up.refl w).alloc _).alloc _))).mono ?_
    rintro e x ⟨rfl, hx⟩
    go_wp2
    go_ret
    exact ⟨ret_bool (by rw [← HG.out]), (((Up.refl w).alloc _).alloc _).trans hx⟩
  · have HG : Hid (false = r) := Lib.hid (by have := HR.out; simpa using this)
    go_enter Tryd.func28, Tryd.ntmps28
    go_wp2
    go_ret
    exact ⟨ret_bool HG.out, ((Up.refl w).alloc _).alloc _⟩
  · have HG : Hid (false = r) := Lib.hid (by have := HR.out; simpa using this)
    go_enter Tryd.func28, Tryd.ntmps28
    go_wp2
    go_ret
    exact ⟨ret_bool HG.out, ((Up.refl w).alloc _).alloc _⟩
  · have HG : Hid (q = r) := Lib.hid (by have := HR.out; simpa using this)
    go_enter Tryd.func28, Tryd.ntmps28
    go_wp2_with fail
    refine (HC.out _ (HV.out.up (((Up.refl w).alloc _).alloc _)) (HV'.out.up (((Up.refl w).alloc _).alloc _))).mono ?_
    rintro e x ⟨rfl, hx⟩
    go_wp2
    go_ret
    exact ⟨ret_bool (by rw [← HG.out]), (((Up.refl w).alloc _).alloc _).trans hx⟩
theorem con_sameMonos (K K' : Int) (v v' : Value) (l l' : List Mono) (w : World) (hv : MonosAt w v l) (hv' : MonosAt w v' l') :
    Calls Tryd.prog 71 #[.agg #[.int .i64 K, v], .agg #[.int .i64 K', v']] w fun e w' => e = .returned (.bool (eqM l l')) ∧ Up w w' := by
  obtain ⟨r, hr⟩ : ∃ r, eqM l l' = r := ⟨_, rfl⟩
  rw [hr]
  have HC : Hid (∀ w, MonosAt w v l → MonosAt w v' l' → Calls Tryd.prog 56 #[.agg #[.int .i64 0, v], .agg #[.int .i64 0, v']] w fun e w' => e = .returned (.bool r) ∧ Up w w') := Lib.hid fun w h h' => by
    have := lin_Same 0 0 v v' l l' w h h'
    unfold eqForm at this
    rw [hr] at this
    simpa using this
  have HV := Lib.hid hv
  have HV' := Lib.hid hv'
  obtain ⟨a, cap, rfl⟩ := hv.slice
  obtain ⟨a', cap', rfl⟩ := hv'.slice
  obtain ⟨n, hn⟩ : ∃ n, l.length = n := ⟨_, rfl⟩
  obtain ⟨n', hn'⟩ : ∃ n', l'.length = n' := ⟨_, rfl⟩
  rw [hn] at HV HC ⊢
  rw [hn'] at HV' HC ⊢
  clear hv hv' hr hn hn'
  have HU : Hid (Up w ((((w.alloc (.cells #[.int .i64 K, .slice a n cap] 24)).alloc (.cells #[.int .i64 K', .slice a' n' cap'] 24)).setCell ⟨w.heap.size, 0, none⟩ (.int .i64 0)).setCell ⟨w.heap.size + 1, 0, none⟩ (.int .i64 0))) :=
    Lib.hid (((((Up.refl w).alloc _).alloc _).setCell (by show w.heap.size ≤ w.heap.size; omega) _).setCell (by show w.heap.size ≤ w.heap.size + 1; omega) _)
  go_enter Tryd.func71, Tryd.ntmps71
  go_wp2_with fail
  refine (HC.out _ (HV.out.up (by first | exact HU.out | (repeat (first | exact Up.refl _ | refine Up.setCell ?_ (by first | (show w.heap.size ≤ w.heap.size; omega) | (show w.heap.size ≤ w.heap.size + 1; omega)) _ | refine Up.alloc ?_ _)))) (HV'.out.up (by first | exact HU.out | (repeat (first | exact Up.refl _ | refine Up.setCell ?_ (by first | (show w.heap.size ≤ w.heap.size; omega) | (show w.heap.size ≤ w.heap.size + 1; omega)) _ | refine Up.alloc ?_ _))))).mono ?_
  rintro e x ⟨rfl, hx⟩
  have HX := Lib.hid (Up.trans (by first | exact HU.out | (repeat (first | exact Up.refl _ | refine Up.setCell ?_ (by first | (show w.heap.size ≤ w.heap.size; omega) | (show w.heap.size ≤ w.heap.size + 1; omega)) _ | refine Up.alloc ?_ _))) hx : Up w x)
  clear hx
  go_wp2
  go_ret
  exact ⟨rfl, HX.out⟩
/-- Of two constraints with the same monomials: is the first kept, do they agree. -/
def keepL (K K' : Int) (b b' : Bool) : Bool := b || (!b' && decide (K ≤ K'))
def agree (K K' : Int) (b b' : Bool) : Bool := if b && b' then decide (K = K') else if b then decide (K ≤ K') else if b' then decide (K' ≤ K) else true
def MergeR (w : World) (A B : Value) (q g : Bool) (e : Ending) (w' : World) : Prop := e = .returned (.tuple #[if q then A else B, .bool g]) ∧ Up w w'
set_option maxHeartbeats 4000000 in
theorem con_merge (K K' : Int) (v v' : Value) (b b' : Bool) (w : World) (hv : ∃ a n c, v = .slice a n c) (hv' : ∃ a n c, v' = .slice a n c) (hK : In64 K) (hK' : In64 K') :
    Calls Tryd.prog 72 #[.agg #[.int .i64 K, v, .bool b], .agg #[.int .i64 K', v', .bool b']] w (MergeR w (.agg #[.int .i64 K, v, .bool b]) (.agg #[.int .i64 K', v', .bool b']) (keepL K K' b b') (agree K K' b b')) := by
  obtain ⟨a, n, cap, rfl⟩ := hv
  obtain ⟨a', n', cap', rfl⟩ := hv'
  obtain ⟨k0, k1⟩ := hK
  obtain ⟨k2, k3⟩ := hK'
  obtain ⟨q, hq⟩ : ∃ q, keepL K K' b b' = q := ⟨_, rfl⟩
  obtain ⟨g, hg⟩ : ∃ g, agree K K' b b' = g := ⟨_, rfl⟩
  rw [hq, hg]
  have HQ := Lib.hid hq
  have HG := Lib.hid hg
  clear hq hg
  have hset : ∀ (x : World) (v : Value) (o : Nat), Up w x → Up w (x.setCell ⟨w.heap.size + 1 + 1, o, none⟩ v) := fun x v o u => u.setCell (by show w.heap.size ≤ w.heap.size + 1 + 1; omega) v
  have HSET := Lib.hid hset
  clear hset
  rcases b with _ | _ <;> rcases b' with _ | _
  · by_cases h : K ≤ K'
    · skip
      have HQ2 : Hid (q = true) := Lib.hid (by rw [← HQ.out]; unfold keepL; simp <;> omega)
      have HG2 : Hid (g = true) := Lib.hid (by rw [← HG.out]; unfold agree; simp <;> omega)
      go_enter Tryd.func72, Tryd.ntmps72
      have HX := Lib.hid (Up.refl w)
      go_wp2
      refine bodyPost_ret (v := .tuple #[.agg #[.int .i64 K, .slice a n cap, .bool false], .bool true]) (by first | (simp [results, Tryd.results72, go_sem, *]; done) | go_simp) rfl ?_
      exact ⟨by rw [HQ2.out, HG2.out]; rfl, by repeat (first | exact HX.out | refine HSET.out _ _ _ ?_ | refine Up.alloc ?_ _ | refine Up.drew ?_)⟩
    · have h2 : K' < K := by omega
      have HQ2 : Hid (q = false) := Lib.hid (by rw [← HQ.out]; unfold keepL; simp <;> omega)
      have HG2 : Hid (g = true) := Lib.hid (by rw [← HG.out]; unfold agree; simp <;> omega)
      go_enter Tryd.func72, Tryd.ntmps72
      have HX := Lib.hid (Up.refl w)
      go_wp2
      refine bodyPost_ret (v := .tuple #[.agg #[.int .i64 K', .slice a' n' cap', .bool false], .bool true]) (by first | (simp [results, Tryd.results72, go_sem, *]; done) | go_simp) rfl ?_
      exact ⟨by rw [HQ2.out, HG2.out]; rfl, by repeat (first | exact HX.out | refine HSET.out _ _ _ ?_ | refine Up.alloc ?_ _ | refine Up.drew ?_)⟩
  · by_cases h : K' ≤ K
    · skip
      have HQ2 : Hid (q = false) := Lib.hid (by rw [← HQ.out]; unfold keepL; simp <;> omega)
      have HG2 : Hid (g = true) := Lib.hid (by rw [← HG.out]; unfold agree; simp <;> omega)
      go_enter Tryd.func72, Tryd.ntmps72
      go_upto_region 6 with fail
      go_region
      all_goals
        have HX := Lib.hid (Up.refl w)
      go_wp2
      refine bodyPost_ret (v := .tuple #[.agg #[.int .i64 K', .slice a' n' cap', .bool true], .bool true]) (by first | (simp [results, Tryd.results72, go_sem, *]; done) | go_simp) rfl ?_
      exact ⟨by rw [HQ2.out, HG2.out]; rfl, by repeat (first | exact HX.out | refine HSET.out _ _ _ ?_ | refine Up.alloc ?_ _ | refine Up.drew ?_)⟩
    · have h2 : K < K' := by omega
      have HQ2 : Hid (q = false) := Lib.hid (by rw [← HQ.out]; unfold keepL; simp <;> omega)
      have HG2 : Hid (g = false) := Lib.hid (by rw [← HG.out]; unfold agree; simp <;> omega)
      go_enter Tryd.func72, Tryd.ntmps72
      go_upto_region 6 with fail
      go_region
      all_goals
        have HX := Lib.hid (Up.refl w)
      go_wp2
      refine bodyPost_ret (v := .tuple #[.agg #[.int .i64 K', .slice a' n' cap', .bool true], .bool false]) (by first | (simp [results, Tryd.results72, go_sem, *]; done) | go_simp) rfl ?_
      exact ⟨by rw [HQ2.out, HG2.out]; rfl, by repeat (first | exact HX.out | refine HSET.out _ _ _ ?_ | refine Up.alloc ?_ _ | refine Up.drew ?_)⟩
  · by_cases h : K ≤ K'
    · skip
      have HQ2 : Hid (q = true) := Lib.hid (by rw [← HQ.out]; unfold keepL; simp <;> omega)
      have HG2 : Hid (g = true) := Lib.hid (by rw [← HG.out]; unfold agree; simp <;> omega)
      go_enter Tryd.func72, Tryd.ntmps72
      go_upto_region 4 with fail
      go_region
      all_goals
        have HX := Lib.hid (Up.refl w)
      go_wp2
      refine bodyPost_ret (v := .tuple #[.agg #[.int .i64 K, .slice a n cap, .bool true], .bool true]) (by first | (simp [results, Tryd.results72, go_sem, *]; done) | go_simp) rfl ?_
      exact ⟨by rw [HQ2.out, HG2.out]; rfl, by repeat (first | exact HX.out | refine HSET.out _ _ _ ?_ | refine Up.alloc ?_ _ | refine Up.drew ?_)⟩
    · have h2 : K' < K := by omega
      have HQ2 : Hid (q = true) := Lib.hid (by rw [← HQ.out]; unfold keepL; simp <;> omega)
      have HG2 : Hid (g = false) := Lib.hid (by rw [← HG.out]; unfold agree; simp <;> omega)
      go_enter Tryd.func72, Tryd.ntmps72
      go_upto_region 4 with fail
      go_region
      all_goals
        have HX := Lib.hid (Up.refl w)
      go_wp2
      refine bodyPost_ret (v := .tuple #[.agg #[.int .i64 K, .slice a n cap, .bool true], .bool false]) (by first | (simp [results, Tryd.results72, go_sem, *]; done) | go_simp) rfl ?_
      exact ⟨by rw [HQ2.out, HG2.out]; rfl, by repeat (first | exact HX.out | refine HSET.out _ _ _ ?_ | refine Up.alloc ?_ _ | refine Up.drew ?_)⟩
  · by_cases h : K = K'
    · subst h
      have HQ2 : Hid (q = true) := Lib.hid (by rw [← HQ.out]; unfold keepL; simp <;> omega)
      have HG2 : Hid (g = true) := Lib.hid (by rw [← HG.out]; unfold agree; simp <;> omega)
      go_enter Tryd.func72, Tryd.ntmps72
      go_upto_region 2 with fail
      go_region
      all_goals
        have HX := Lib.hid (Up.refl w)
      go_wp2
      refine bodyPost_ret (v := .tuple #[.agg #[.int .i64 K, .slice a n cap, .bool true], .bool true]) (by first | (simp [results, Tryd.results72, go_sem, *]; done) | go_simp) rfl ?_
      exact ⟨by rw [HQ2.out, HG2.out]; rfl, by repeat (first | exact HX.out | refine HSET.out _ _ _ ?_ | refine Up.alloc ?_ _ | refine Up.drew ?_)⟩
    · have h2 : (K == K') = false := by simpa using h
      have HQ2 : Hid (q = true) := Lib.hid (by rw [← HQ.out]; unfold keepL; simp <;> omega)
      have HG2 : Hid (g = false) := Lib.hid (by rw [← HG.out]; unfold agree; simp <;> omega)
      go_enter Tryd.func72, Tryd.ntmps72
      go_upto_region 2 with fail
      go_region
      all_goals
        have HX := Lib.hid (Up.refl w)
      go_wp2
      refine bodyPost_ret (v := .tuple #[.agg #[.int .i64 K, .slice a n cap, .bool true], .bool false]) (by first | (simp [results, Tryd.results72, go_sem, *]; done) | go_simp) rfl ?_
      exact ⟨by rw [HQ2.out, HG2.out]; rfl, by repeat (first | exact HX.out | refine HSET.out _ _ _ ?_ | refine Up.alloc ?_ _ | refine Up.drew ?_)⟩
set_option maxHeartbeats 4000000 in
theorem r06_stronger (K K' : Int) (v v' : Value) (b b' : Bool) (w : World) (hv : ∃ a n c, v = .slice a n c) (hv' : ∃ a n c, v' = .slice a n c) (hK : In64 K) (hK' : In64 K') :
    Calls Tryd.prog 52 #[.agg #[.int .i64 K, v, .bool b], .agg #[.int .i64 K', v', .bool b']] w (MergeR w (.agg #[.int .i64 K, v, .bool b]) (.agg #[.int .i64 K', v', .bool b']) (keepL K K' b b') (agree K K' b b')) := by
  obtain ⟨a, n, cap, rfl⟩ := hv
  obtain ⟨a', n', cap', rfl⟩ := hv'
  obtain ⟨k0, k1⟩ := hK
  obtain ⟨k2, k3⟩ := hK'
  obtain ⟨q, hq⟩ : ∃ q, keepL K K' b b' = q := ⟨_, rfl⟩
  obtain ⟨g, hg⟩ : ∃ g, agree K K' b b' = g := ⟨_, rfl⟩
  rw [hq, hg]
  have HQ := Lib.hid hq
  have HG := Lib.hid hg
  clear hq hg
  have hset : ∀ (x : World) (v : Value) (o : Nat), Up w x → Up w (x.setCell ⟨w.heap.size + 1 + 1, o, none⟩ v) := fun x v o u => u.setCell (by show w.heap.size ≤ w.heap.size + 1 + 1; omega) v
  have HSET := Lib.hid hset
  clear hset
  rcases b with _ | _ <;> rcases b' with _ | _
  · by_cases h : K ≤ K'
    · skip
      have HQ2 : Hid (q = true) := Lib.hid (by rw [← HQ.out]; unfold keepL; simp <;> omega)
      have HG2 : Hid (g = true) := Lib.hid (by rw [← HG.out]; unfold agree; simp <;> omega)
      go_enter Tryd.func52, Tryd.ntmps52
      have HX := Lib.hid (Up.refl w)
      go_wp2
      refine bodyPost_ret (v := .tuple #[.agg #[.int .i64 K, .slice a n cap, .bool false], .bool true]) (by first | (simp [results, Tryd.results52, go_sem, *]; done) | go_simp) rfl ?_
      exact ⟨by rw [HQ2.out, HG2.out]; rfl, by repeat (first | exact HX.out | refine HSET.out _ _ _ ?_ | refine Up.alloc ?_ _ | refine Up.drew ?_)⟩
    · have h2 : K' < K := by omega
      have HQ2 : Hid (q = false) := Lib.hid (by rw [← HQ.out]; unfold keepL; simp <;> omega)
      have HG2 : Hid (g = true) := Lib.hid (by rw [← HG.out]; unfold agree; simp <;> omega)
      go_enter Tryd.func52, Tryd.ntmps52
      have HX := Lib.hid (Up.refl w)
      go_wp2
      refine bodyPost_ret (v := .tuple #[.agg #[.int .i64 K', .slice a' n' cap', .bool false], .bool true]) (by first | (simp [results, Tryd.results52, go_sem, *]; done) | go_simp) rfl ?_
      exact ⟨by rw [HQ2.out, HG2.out]; rfl, by repeat (first | exact HX.out | refine HSET.out _ _ _ ?_ | refine Up.alloc ?_ _ | refine Up.drew ?_)⟩
  · by_cases h : K' ≤ K
    · skip
      have HQ2 : Hid (q = false) := Lib.hid (by rw [← HQ.out]; unfold keepL; simp <;> omega)
      have HG2 : Hid (g = true) := Lib.hid (by rw [← HG.out]; unfold agree; simp <;> omega)
      go_enter Tryd.func52, Tryd.ntmps52
      go_upto_region 6 with fail
      go_region
      all_goals
        have HX := Lib.hid (Up.refl w)
      go_wp2
      refine bodyPost_ret (v := .tuple #[.agg #[.int .i64 K', .slice a' n' cap', .bool true], .bool true]) (by first | (simp [results, Tryd.results52, go_sem, *]; done) | go_simp) rfl ?_
      exact ⟨by rw [HQ2.out, HG2.out]; rfl, by repeat (first | exact HX.out | refine HSET.out _ _ _ ?_ | refine Up.alloc ?_ _ | refine Up.drew ?_)⟩
    · have h2 : K < K' := by omega
      have HQ2 : Hid (q = false) := Lib.hid (by rw [← HQ.out]; unfold keepL; simp <;> omega)
      have HG2 : Hid (g = false) := Lib.hid (by rw [← HG.out]; unfold agree; simp <;> omega)
      go_enter Tryd.func52, Tryd.ntmps52
      go_upto_region 6 with fail
      go_region
      all_goals
        have HX := Lib.hid (Up.refl w)
      go_wp2
      refine bodyPost_ret (v := .tuple #[.agg #[.int .i64 K', .slice a' n' cap', .bool true], .bool false]) (by first | (simp [results, Tryd.results52, go_sem, *]; done) | go_simp) rfl ?_
      exact ⟨by rw [HQ2.out, HG2.out]; rfl, by repeat (first | exact HX.out | refine HSET.out _ _ _ ?_ | refine Up.alloc ?_ _ | refine Up.drew ?_)⟩
  · by_cases h : K ≤ K'
    · skip
      have HQ2 : Hid (q = true) := Lib.hid (by rw [← HQ.out]; unfold keepL; simp <;> omega)
      have HG2 : Hid (g = true) := Lib.hid (by rw [← HG.out]; unfold agree; simp <;> omega)
      go_enter Tryd.func52, Tryd.ntmps52
      go_upto_region 4 with fail
      go_region
      all_goals
        have HX := Lib.hid (Up.refl w)
      go_wp2
      refine bodyPost_ret (v := .tuple #[.agg #[.int .i64 K, .slice a n cap, .bool true], .bool true]) (by first | (simp [results, Tryd.results52, go_sem, *]; done) | go_simp) rfl ?_
      exact ⟨by rw [HQ2.out, HG2.out]; rfl, by repeat (first | exact HX.out | refine HSET.out _ _ _ ?_ | refine Up.alloc ?_ _ | refine Up.drew ?_)⟩
    · have h2 : K' < K := by omega
      have HQ2 : Hid (q = true) := Lib.hid (by rw [← HQ.out]; unfold keepL; simp <;> omega)
      have HG2 : Hid (g = false) := Lib.hid (by rw [← HG.out]; unfold agree; simp <;> omega)
      go_enter Tryd.func52, Tryd.ntmps52
      go_upto_region 4 with fail
      go_region
      all_goals
        have HX := Lib.hid (Up.refl w)
      go_wp2
      refine bodyPost_ret (v := .tuple #[.agg #[.int .i64 K, .slice a n cap, .bool true], .bool false]) (by first | (simp [results, Tryd.results52, go_sem, *]; done) | go_simp) rfl ?_
      exact ⟨by rw [HQ2.out, HG2.out]; rfl, by repeat (first | exact HX.out | refine HSET.out _ _ _ ?_ | refine Up.alloc ?_ _ | refine Up.drew ?_)⟩
  · by_cases h : K = K'
    · subst h
      have HQ2 : Hid (q = true) := Lib.hid (by rw [← HQ.out]; unfold keepL; simp <;> omega)
      have HG2 : Hid (g = true) := Lib.hid (by rw [← HG.out]; unfold agree; simp <;> omega)
      go_enter Tryd.func52, Tryd.ntmps52
      go_upto_region 2 with fail
      go_region
      all_goals
        have HX := Lib.hid (Up.refl w)
      go_wp2
      refine bodyPost_ret (v := .tuple #[.agg #[.int .i64 K, .slice a n cap, .bool true], .bool true]) (by first | (simp [results, Tryd.results52, go_sem, *]; done) | go_simp) rfl ?_
      exact ⟨by rw [HQ2.out, HG2.out]; rfl, by repeat (first | exact HX.out | refine HSET.out _ _ _ ?_ | refine Up.alloc ?_ _ | refine Up.drew ?_)⟩
    · have h2 : (K == K') = false := by simpa using h
      have HQ2 : Hid (q = true) := Lib.hid (by rw [← HQ.out]; unfold keepL; simp <;> omega)
      have HG2 : Hid (g = false) := Lib.hid (by rw [← HG.out]; unfold agree; simp <;> omega)
      go_enter Tryd.func52, Tryd.ntmps52
      go_upto_region 2 with fail
      go_region
      all_goals
        have HX := Lib.hid (Up.refl w)
      go_wp2
      refine bodyPost_ret (v := .tuple #[.agg #[.int .i64 K, .slice a n cap, .bool true], .bool false]) (by first | (simp [results, Tryd.results52, go_sem, *]; done) | go_simp) rfl ?_
      exact ⟨by rw [HQ2.out, HG2.out]; rfl, by repeat (first | exact HX.out | refine HSET.out _ _ _ ?_ | refine Up.alloc ?_ _ | refine Up.drew ?_)⟩
theorem r06_monomials (K K' : Int) (v v' : Value) (l l' : List Mono) (w : World) (hv : MonosAt w v l) (hv' : MonosAt w v' l') :
    Calls Tryd.prog 51 #[.agg #[.int .i64 K, v], .agg #[.int .i64 K', v']] w fun e w' => e = .returned (.bool (eqM l l')) ∧ Up w w' := by
  obtain ⟨r, hr⟩ : ∃ r, eqM l l' = r := ⟨_, rfl⟩
  rw [hr]
  have HC : Hid (∀ w, MonosAt w v l → MonosAt w v' l' → Calls Tryd.prog 44 #[.agg #[.int .i64 0, v], .agg #[.int .i64 0, v']] w fun e w' => e = .returned (.bool r) ∧ Up w w') := Lib.hid fun w h h' => by
    have := base_Lin 0 0 v v' l l' w h h'
    unfold eqForm at this
    rw [hr] at this
    simpa using this
  have HV := Lib.hid hv
  have HV' := Lib.hid hv'
  obtain ⟨a, cap, rfl⟩ := hv.slice
  obtain ⟨a', cap', rfl⟩ := hv'.slice
  obtain ⟨n, hn⟩ : ∃ n, l.length = n := ⟨_, rfl⟩
  obtain ⟨n', hn'⟩ : ∃ n', l'.length = n' := ⟨_, rfl⟩
  rw [hn] at HV HC ⊢
  rw [hn'] at HV' HC ⊢
  clear hv hv' hr hn hn'
  go_enter Tryd.func51, Tryd.ntmps51
  go_wp2_with fail
  refine (HC.out _ (HV.out.up (((Up.refl w).alloc _).alloc _)) (HV'.out.up (((Up.refl w).alloc _).alloc _))).mono ?_
  rintro e x ⟨rfl, hx⟩
  go_wp2
  go_ret
  exact ⟨rfl, (((Up.refl w).alloc _).alloc _).trans hx⟩
end Go.Proofs.YtahlecmlhdikjaaDoor
end
