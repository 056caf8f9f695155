/-
  Add of the reference: the walk.
-/
import Derived.Test.YtahlecmlhdikjaaDoorLinRw
import Derived.Test.YtahlecmlhdikjaaDoorGf
import Derived.Test.YtahlecmlhdikjaaDoorGd
namespace Go.Proofs.YtahlecmlhdikjaaDoor
open Go.ChangeShapes Go.WideShapes Go.ChangeAt Go.RowKit
set_option linter.unusedVariables false

theorem addR_snd (a b : Int) : (addR a b).2 = fitB (a + b) := by
  unfold addR; cases h : fitB (a + b) <;> simp
theorem addR_fst {a b : Int} (h : fitB (a + b) = true) : (addR a b).1 = a + b := by unfold addR; rw [h]; rfl
def LinsHyp (l l' : List Mono) : Prop := l.length ≤ 1000 ∧ l'.length ≤ 1000
theorem coef_rng (s : List UInt8) : ∀ l : List Mono, (∀ m ∈ l, In64 m.2) → In64 (coefF s l)
  | [], _ => ⟨by show (-9223372036854775808 : Int) ≤ 0; decide, by show (0 : Int) ≤ 9223372036854775807; decide⟩
  | m :: r, h => by
    unfold coefF
    split
    · exact h m (by simp)
    · exact coef_rng s r fun x hx => h x (by simp [hx])
theorem outN_len (l l' : List Mono) : ∀ ns : List ByteArray, (outN l l' ns).length ≤ ns.length
  | [] => by simp [outN]
  | s :: r => by
    have ih := outN_len l l' r
    unfold outN at ih ⊢
    rw [List.flatMap_cons, List.length_append, List.length_cons]
    have : (putM s (coefF s.toList l + coefF s.toList l') []).length ≤ 1 := by unfold putM; split <;> simp
    omega
theorem outN_snoc (l l' : List Mono) (ns : List ByteArray) (s : ByteArray) : outN l l' (ns ++ [s]) = outN l l' ns ++ putM s (coefF s.toList l + coefF s.toList l') [] := by simp [outN]
theorem fitN_snoc (l l' : List Mono) (ns : List ByteArray) (s : ByteArray) : fitN l l' (ns ++ [s]) = (fitN l l' ns && fitB (coefF s.toList l + coefF s.toList l')) := by simp [fitN]
theorem fitN_false {l l' : List Mono} {ns : List ByteArray} {s : ByteArray} (hs : s ∈ ns) (h : fitB (coefF s.toList l + coefF s.toList l') = false) : fitN l l' ns = false := by
  cases hx : fitN l l' ns
  · rfl
  · have := List.all_eq_true.1 hx s hs
    rw [h] at this; cases this
/-- Two forms laid side by side. -/
theorem two_lins {x : World} {K K' : Int} {v v' : Value} {l l' : List Mono} (t : TypeId) (h : MonosAt x v l) (h' : MonosAt x v' l') : LinsAt (x.alloc (.cells #[.int .i64 K, v, .int .i64 K', v'] t)) (.slice (some ⟨x.heap.size, 0, none⟩) 2 2) [(K, l), (K', l')] := by
  refine ⟨fun i => match i with | 0 => v | _ => v', SlAt.new x t _ 2 2 _ (by decide) (fun i j hi hj => ?_), fun i hi => ?_⟩
  · rcases (by omega : i = 0 ∨ i = 1) with rfl | rfl <;> rcases (by omega : j = 0 ∨ j = 1) with rfl | rfl <;> rfl
  · have hi2 : i < 2 := hi
    rcases (by omega : i = 0 ∨ i = 1) with rfl | rfl
    · exact SlAt.up h ((Up.refl x).alloc _)
    · exact SlAt.up h' ((Up.refl x).alloc _)
theorem OutAt.two {w w' : World} {h O n : Nat} {K : Int} {l : List Mono} {a : Option Addr} {cap : Nat} (x : OutAt w h O K l n a cap) (u : UpRow h O w w') : True := trivial

set_option maxHeartbeats 16000000 in
set_option maxRecDepth 100000 in
theorem r05_Add (K K' : Int) (v v' : Value) (l l' : List Mono) (w : World) (hv : Part w v l) (hv' : Part w v' l') (hK : In64 K) (hK' : In64 K') (hlen : l.length ≤ 1000) (hlen' : l'.length ≤ 1000) :
    Calls Tryd.prog 59 #[.agg #[.int .i64 K, v], .agg #[.int .i64 K', v']] w fun e w' => LinErrF w e w' (addRF K l K' l') ∧ Up w w' := by
  obtain ⟨i0, hi0, hz0, hz1, hz2⟩ := info_parts mono_info
  obtain ⟨a, cap, rfl⟩ := hv.1.slice
  obtain ⟨a', cap', rfl⟩ := hv'.1.slice
  obtain ⟨n, hn⟩ : ∃ n, l.length = n := ⟨_, rfl⟩
  obtain ⟨n', hn'⟩ : ∃ n, l'.length = n := ⟨_, rfl⟩
  have HLN : Hid (l.length + l'.length + 0 ≤ 5000) := Lib.hid (by omega)
  rw [hn] at hv hlen ⊢
  rw [hn'] at hv' hlen' ⊢
  have HV := Lib.hid hv
  have HV' := Lib.hid hv'
  obtain ⟨q, hq⟩ : ∃ q, okL l = q := ⟨_, rfl⟩
  obtain ⟨q', hq'⟩ : ∃ q, okL l' = q := ⟨_, rfl⟩
  have HVA : Hid (∀ (w : World) (hv : MonosAt w (.slice a n cap) l), Calls Tryd.prog 65 #[.agg #[.int .i64 K, .slice a n cap]] w fun e w' => e = .returned (.int .i64 (errOf q)) ∧ Up w w') := Lib.hid fun w hv => by
    have := r05_Validate K (.slice a n cap) l w hv
    rw [hq] at this
    exact this
  have HVB : Hid (∀ (w : World) (hv : MonosAt w (.slice a' n' cap') l'), Calls Tryd.prog 65 #[.agg #[.int .i64 K', .slice a' n' cap']] w fun e w' => e = .returned (.int .i64 (errOf q')) ∧ Up w w') := Lib.hid fun w hv => by
    have := r05_Validate K' (.slice a' n' cap') l' w hv
    rw [hq'] at this
    exact this
  obtain ⟨c, hc⟩ : ∃ c, (addR K K').1 = c := ⟨_, rfl⟩
  obtain ⟨g, hg⟩ : ∃ g, fitB (K + K') = g := ⟨_, rfl⟩
  have HPL : Hid (∀ w, Calls Tryd.prog 88 #[.int .i64 K, .int .i64 K'] w fun e w' => e = .returned (.tuple #[.int .i64 c, .bool g]) ∧ w' = w) := Lib.hid fun w => by
    have := base_Plus K K' hK hK' w
    rw [addR_snd, hc, hg] at this; exact this
  have HCE : Hid (g = true → c = K + K') := Lib.hid fun h => by rw [← hc]; unfold addR; rw [hg, h]; rfl
  have HLL : Hid (LinsHyp l l') := Lib.hid ⟨by omega, by omega⟩
  have HRN : Hid (∀ m ∈ l, In64 m.2) := Lib.hid (Rng.mem hv.2.1)
  have HRN' : Hid (∀ m ∈ l', In64 m.2) := Lib.hid (Rng.mem hv'.2.1)
  obtain ⟨ns, hm⟩ : ∃ ns, namesF [l, l'] = ns := ⟨_, rfl⟩
  have HNS : Hid (namesF [l, l'] = ns) := Lib.hid hm
  have HR : Hid (addRF K l K' l' = if q && q' then (if g && fitN l l' ns then (K + K', outN l l' ns, 0) else (0, [], 3)) else (0, [], 1)) := Lib.hid (by unfold addRF; rw [hq, hq', hg, hm])
  obtain ⟨r, hr⟩ : ∃ r, addRF K l K' l' = r := ⟨_, rfl⟩
  rw [hr] at HR ⊢
  clear hv hv' hn hn' hq hq' hc hg hm hr hK hK'
  go_enter Tryd.func59, Tryd.ntmps59
  go_wp2_with fail
  refine (HVA.out _ (HV.out.1.up ((((Up.refl w).alloc _).alloc _).alloc _))).mono ?_
  rintro e x1 ⟨rfl, hx1⟩
  have hs := hx1.size
  rw [size_alloc, size_alloc, size_alloc] at hs
  have a0 : x1.cell? ⟨w.heap.size, 0, none⟩ = some (.int .i64 K) := (hx1.cell _ _ (by rw [size_alloc, size_alloc, size_alloc]; omega)).trans (by go_simp)
  have a1 : x1.cell? ⟨w.heap.size, 1, none⟩ = some (.slice a n cap) := (hx1.cell _ _ (by rw [size_alloc, size_alloc, size_alloc]; omega)).trans (by go_simp)
  have b0 : x1.cell? ⟨w.heap.size + 1, 0, none⟩ = some (.int .i64 K') := (hx1.cell _ _ (by rw [size_alloc, size_alloc, size_alloc]; omega)).trans (by go_simp)
  have b1 : x1.cell? ⟨w.heap.size + 1, 1, none⟩ = some (.slice a' n' cap') := (hx1.cell _ _ (by rw [size_alloc, size_alloc, size_alloc]; omega)).trans (by go_simp)
  have c0 : x1.cell? ⟨w.heap.size + 1 + 1, 0, none⟩ = some (.int .i64 0) := (hx1.cell _ _ (by rw [size_alloc, size_alloc, size_alloc]; omega)).trans (by go_simp)
  have c1 : x1.cell? ⟨w.heap.size + 1 + 1, 1, none⟩ = some (.slice none 0 0) := (hx1.cell _ _ (by rw [size_alloc, size_alloc, size_alloc]; omega)).trans (by go_simp)
  have cf : ∀ o, x1.frozen? ⟨w.heap.size + 1 + 1, o, none⟩ = false := fun o => (hx1.frozen _ _ (by rw [size_alloc, size_alloc, size_alloc]; omega)).trans (by go_simp)
  have HU1 := Lib.hid (((((Up.refl w).alloc (.cells #[.int .i64 K, .slice a n cap] 24)).alloc (.cells #[.int .i64 K', .slice a' n' cap'] 24)).alloc (.cells #[.int .i64 0, .slice none 0 0] 24)).trans hx1)
  clear hx1
  have hset : ∀ (x : World) (v : Value) (o : Nat), Up w x → Up w (x.setCell ⟨w.heap.size + 1 + 1, o, none⟩ v) := fun x v o u => u.setCell (by show w.heap.size ≤ w.heap.size + 1 + 1; omega) v
  have HSET := Lib.hid hset
  clear hset
  have q0 : w.heap.size < x1.heap.size := by omega
  have q1 : w.heap.size + 1 < x1.heap.size := by omega
  have q2 : w.heap.size + 1 + 1 < x1.heap.size := by omega
  cases q
  · rw [show errOf false = 1 from rfl]
    have hr2 : r = (0, [], 1) := by rw [HR.out]; rfl
    have HR2 := Lib.hid hr2
    clear hr2
    go_wp2
    refine bodyPost_ret (v := .tuple #[.agg #[.int .i64 0, .slice none 0 0], .int .i64 1]) (by simp [results, Tryd.results59, go_sem, c0, c1]) rfl ?_
    rw [HR2.out]
    exact ⟨⟨_, rfl, monos_nil _, cap_nil, fresh_nil w⟩, by repeat (first | exact HU1.out | refine HSET.out _ _ _ ?_)⟩
  rw [show errOf true = 0 from rfl]
  go_wp2_with fail
  refine (HVB.out _ (HV'.out.1.up HU1.out)).mono ?_
  rintro e x2 ⟨rfl, hx2⟩
  have hs2 := hx2.size
  have a0' := (hx2.cell _ _ q0).trans a0
  have a1' := (hx2.cell _ _ q0).trans a1
  have b0' := (hx2.cell _ _ q1).trans b0
  have b1' := (hx2.cell _ _ q1).trans b1
  have c0' := (hx2.cell _ _ q2).trans c0
  have c1' := (hx2.cell _ _ q2).trans c1
  have cf' := fun o => (hx2.frozen _ _ q2).trans (cf o)
  replace HU1 := Lib.hid (HU1.out.trans hx2)
  have p0 : w.heap.size < x2.heap.size := by omega
  have p1 : w.heap.size + 1 < x2.heap.size := by omega
  have p2 : w.heap.size + 1 + 1 < x2.heap.size := by omega
  clear hx2 a0 a1 b0 b1 c0 c1 cf q0 q1 q2 hs hs2
  cases q'
  · rw [show errOf false = 1 from rfl]
    have hr2 : r = (0, [], 1) := by rw [HR.out]; rfl
    have HR2 := Lib.hid hr2
    clear hr2
    go_wp2
    refine bodyPost_ret (v := .tuple #[.agg #[.int .i64 0, .slice none 0 0], .int .i64 1]) (by simp [results, Tryd.results59, go_sem, c0', c1']) rfl ?_
    rw [HR2.out]
    exact ⟨⟨_, rfl, monos_nil _, cap_nil, fresh_nil w⟩, by repeat (first | exact HU1.out | refine HSET.out _ _ _ ?_)⟩
  rw [show errOf true = 0 from rfl]
  have HRR : Hid (r = if g && fitN l l' ns then (K + K', outN l l' ns, 0) else (0, [], 3)) := Lib.hid (by rw [HR.out]; rfl)
  clear HR
  go_wp2_with fail
  refine (HPL.out _).mono ?_
  rintro e x3 ⟨rfl, hx3⟩
  replace hx3 := hx3.symm
  subst hx3
  cases g
  · have HR2 : Hid (r = (0, [], 3)) := Lib.hid (by rw [HRR.out]; rfl)
    go_wp2
    refine bodyPost_ret (v := .tuple #[.agg #[.int .i64 0, .slice none 0 0], .int .i64 3]) (by simp [results, Tryd.results59, go_sem, c0', c1']) rfl ?_
    rw [HR2.out]
    exact ⟨⟨_, rfl, monos_nil _, cap_nil, fresh_nil w⟩, by repeat (first | exact HU1.out | refine HSET.out _ _ _ ?_)⟩
  have HRS : Hid (r = if fitN l l' ns then (c, outN l l' ns, 0) else (0, [], 3)) := Lib.hid (by rw [HRR.out, HCE.out rfl, Bool.true_and])
  clear HRR HCE
  have hva : MonosAt (x2.alloc (.cells #[.int .i64 c, .slice none 0 0] 24)) (.slice a n cap) l := HV.out.1.up (HU1.out.alloc _)
  have hvb : MonosAt (x2.alloc (.cells #[.int .i64 c, .slice none 0 0] 24)) (.slice a' n' cap') l' := HV'.out.1.up (HU1.out.alloc _)
  have hli := two_lins (K := K) (K' := K') 24 hva hvb
  rw [size_alloc] at hli
  have HLI := Lib.hid hli
  clear hva hvb hli
  go_wp2_with fail
  refine (r05_Names _ [(K, l), (K', l')] _ HLI.out (by simp) (fun x hx => by
    have h := HLL.out
    rcases List.mem_cons.1 hx with rfl | hx
    · exact h.1
    · rcases List.mem_cons.1 hx with rfl | hx
      · exact h.2
      · cases hx)).mono ?_
  rintro e x4 ⟨nv, rfl, hno, hx4⟩
  rw [show namesF (List.map (fun x => x.2) [(K, l), (K', l')]) = ns from HNS.out] at hno
  have hmx := own_max hno
  obtain ⟨na, ncap, rfl⟩ := own_slice hno
  obtain ⟨m, hm⟩ : ∃ m, ns.length = m := ⟨_, rfl⟩
  have hm2 : m ≤ 2000 := by
    rw [← hm, ← HNS.out]
    have h1 := fold_len [l, l'] [] (fun x hx => by
      have h := HLL.out
      rcases List.mem_cons.1 hx with rfl | hx
      · exact h.1
      · rcases List.mem_cons.1 hx with rfl | hx
        · exact h.2
        · cases hx)
    have h2 : (namesF [l, l']).length ≤ 0 + 1000 * 2 := h1
    omega
  have hmI : (m : Int) ≤ 2000 := by omega
  unfold NamesOwn at hno
  rw [hm] at hno hmx
  try rw [hm]
  obtain ⟨O, hO⟩ : ∃ O, x2.heap.size = O := ⟨_, rfl⟩
  rw [size_alloc, size_alloc, hO] at hno
  have hs4 := hx4.size
  rw [size_alloc, size_alloc, hO] at hs4
  have hOx : O < x2.heap.size + 1 + 1 := by omega
  have hcO : x4.heap[O]? = some (.cells #[.int .i64 c, .slice none 0 0] 24 (0, 0)) := by
    rw [hx4.heap O (by rw [size_alloc, size_alloc]; omega), ((Up.refl _).alloc _ : Up (x2.alloc (.cells #[.int .i64 c, .slice none 0 0] 24)) _).heap O (by rw [size_alloc]; omega), ← hO]
    exact heap_alloc_new x2 _
  have hUx : Up x2 x4 := (((Up.refl x2).alloc _).alloc _).trans hx4
  have HU4 := Lib.hid (HU1.out.trans hUx)
  have A0 := Lib.hid ((hUx.cell _ _ p0).trans a0')
  have A1 := Lib.hid ((hUx.cell _ _ p0).trans a1')
  have B0 := Lib.hid ((hUx.cell _ _ p1).trans b0')
  have B1 := Lib.hid ((hUx.cell _ _ p1).trans b1')
  have C0 := Lib.hid ((hUx.cell _ _ p2).trans c0')
  have C1 := Lib.hid ((hUx.cell _ _ p2).trans c1')
  have CF := Lib.hid (fun o => (hUx.frozen _ _ p2).trans (cf' o))
  rw [hO] at p0 p1 p2
  try rw [hO]
  obtain ⟨H, hH⟩ : ∃ H, x4.heap.size = H := ⟨_, rfl⟩
  have hH2 : O + 1 + 1 ≤ H := by omega
  have HOut : Hid (OutAt x4 H O c (outN l l' (ns.take 0)) 0 none 0) := Lib.hid ⟨rfl, hcO, World.ownsRow_nil _ _ _ _, by omega, by omega⟩
  have HNO := Lib.hid hno
  have HM := Lib.hid hm
  have HHE := Lib.hid hH
  clear hx4 hUx hcO hO hno hm hOx a0' a1' b0' b1' c0' c1' cf' hs4 HU1 hmx HPL hH
  have hcf : ∀ wr, UpRow H O x4 wr → wr.cell? ⟨w.heap.size, 0, none⟩ = some (.int .i64 K) ∧ wr.cell? ⟨w.heap.size, 1, none⟩ = some (.slice a n cap) ∧ wr.cell? ⟨w.heap.size + 1, 0, none⟩ = some (.int .i64 K') ∧ wr.cell? ⟨w.heap.size + 1, 1, none⟩ = some (.slice a' n' cap') ∧ wr.cell? ⟨w.heap.size + 1 + 1, 0, none⟩ = some (.int .i64 0) ∧ wr.cell? ⟨w.heap.size + 1 + 1, 1, none⟩ = some (.slice none 0 0) ∧ ∀ o, wr.frozen? ⟨w.heap.size + 1 + 1, o, none⟩ = false := fun wr hr => by
    refine ⟨(hr.cell _ _ (by omega) (by omega)).trans A0.out, (hr.cell _ _ (by omega) (by omega)).trans A1.out, (hr.cell _ _ (by omega) (by omega)).trans B0.out, (hr.cell _ _ (by omega) (by omega)).trans B1.out, (hr.cell _ _ (by omega) (by omega)).trans C0.out, (hr.cell _ _ (by omega) (by omega)).trans C1.out, fun o => ?_⟩
    have h1 := hr.block (w.heap.size + 1 + 1) (by omega) (by omega)
    have h2 := CF.out o
    unfold World.frozen? at h2 ⊢
    rw [h1]; exact h2
  have HCF := Lib.hid hcf
  clear hcf A0 A1 B0 B1 C0 C1 CF
  go_wp2
  go_loopw [10] (fun i wr => ∃ (k n2 : Nat) (va : Option Addr) (vc : Nat), k ≤ m ∧ i = .int .i64 k ∧ fitN l l' (ns.take k) = true ∧ OutAt wr H O c (outN l l' (ns.take k)) n2 va vc ∧ UpRow H O x4 wr) (fun i _ => m - (intOf i).toNat)
  case atStart => exact ⟨0, 0, none, 0, by omega, rfl, rfl, HOut.out, UpRow.refl _ _ _⟩
  case round =>
    rename_i wr
    obtain ⟨k, n2, va, vc, hk, rfl, hfk, hOut, hRow⟩ := hrel
    have hU := UpRow.up HU4.out (by omega : w.heap.size ≤ O) (by omega) hRow
    obtain ⟨o0, o1, of, ol⟩ := hOut.cells
    have HOut := Lib.hid hOut
    have HRow := Lib.hid hRow
    have HFK := Lib.hid hfk
    have HU := Lib.hid hU
    have hszr := hRow.size
    have hHE := HHE.out
    have q0 : w.heap.size < wr.heap.size := by omega
    have q1 : w.heap.size + 1 < wr.heap.size := by omega
    have q2 : w.heap.size + 1 + 1 < wr.heap.size := by omega
    obtain ⟨a0, a1, b0, b1, c0, c1, cf⟩ := HCF.out _ hRow
    clear hOut hRow hfk hHE
    by_cases hlt : k < m
    · have hlt2 : (k : Int) < (m : Int) := by omega
      have hk0 : (0 : Int) ≤ (k : Int) := by omega
      obtain ⟨g, cp, hv', hgb, hgl, _, _, hcl⟩ := own_get HNO.out (by omega)
      obtain ⟨rfl, rfl⟩ : na = some ⟨g, 0, none⟩ ∧ ncap = cp := by
        simp only [Value.slice.injEq] at hv'
        exact ⟨hv'.1, hv'.2.2⟩
      obtain ⟨s, hs⟩ : ∃ s, ns.getD k ⟨#[]⟩ = s := ⟨_, rfl⟩
      have cs : wr.cell? ⟨g, k, none⟩ = some (.string s) := by
        rw [← hs]
        exact (HRow.out.cell _ _ (by rw [← HHE.out]; exact hgl) (by omega)).trans (hcl k _ (strCells_get (by rw [HM.out]; exact hlt)))
      have hgr : g < wr.heap.size := by have := HHE.out; omega
      have HT := Lib.hid (take_snoc2 (by rw [HM.out]; exact hlt) hs)
      have hms : s ∈ ns := by
        rw [← hs, List.getD_eq_getElem?_getD, List.getElem?_eq_getElem (by rw [HM.out]; exact hlt)]; exact List.getElem_mem _
      obtain ⟨cx, hcx⟩ : ∃ x, coefF s.toList l = x := ⟨_, rfl⟩
      obtain ⟨cy, hcy⟩ : ∃ x, coefF s.toList l' = x := ⟨_, rfl⟩
      have hrx : In64 cx := hcx ▸ coef_rng _ _ HRN.out
      have hry : In64 cy := hcy ▸ coef_rng _ _ HRN'.out
      obtain ⟨f, hf⟩ : ∃ f, fitB (cx + cy) = f := ⟨_, rfl⟩
      obtain ⟨by', hby⟩ : ∃ x, (addR cx cy).1 = x := ⟨_, rfl⟩
      have HC1 : Hid (∀ W, Up w W → Calls Tryd.prog 90 #[.agg #[.int .i64 K, .slice a n cap], .string s] W fun e w' => e = .returned (.int .i64 cx) ∧ Up W w') := Lib.hid fun W hW => by
        have := r05_Coeff K s _ l W (HV.out.1.up hW)
        rw [hcx] at this; exact this
      have HC2 : Hid (∀ W, Up w W → Calls Tryd.prog 90 #[.agg #[.int .i64 K', .slice a' n' cap'], .string s] W fun e w' => e = .returned (.int .i64 cy) ∧ Up W w') := Lib.hid fun W hW => by
        have := r05_Coeff K' s _ l' W (HV'.out.1.up hW)
        rw [hcy] at this; exact this
      have HPP : Hid (∀ W, Calls Tryd.prog 88 #[.int .i64 cx, .int .i64 cy] W fun e w' => e = .returned (.tuple #[.int .i64 by', .bool f]) ∧ Up W w') := Lib.hid fun W => by
        have := base_Plus cx cy hrx hry W
        rw [addR_snd, hby, hf] at this
        exact this.mono fun e w' ⟨h1, h2⟩ => ⟨h1, h2 ▸ Up.refl _⟩
      have HBY : Hid (f = true → by' = cx + cy) := Lib.hid fun h => by rw [← hby]; exact addR_fst (by rw [hf, h])
      have HF2 : Hid (fitN l l' (ns.take (k + 1)) = f) := Lib.hid (by rw [HT.out, fitN_snoc, HFK.out, hcx, hcy, hf]; rfl)
      have HO2 : Hid (outN l l' (ns.take (k + 1)) = outN l l' (ns.take k) ++ putM s (cx + cy) []) := Lib.hid (by rw [HT.out, outN_snoc, hcx, hcy])
      have HFA : Hid (f = false → fitN l l' ns = false) := Lib.hid fun h => fitN_false hms (by rw [hcx, hcy, hf, h])
      have hn2 : n2 ≤ 2000 := by
        rw [HOut.out.1]
        have h1 := outN_len l l' (ns.take k)
        have h2 : (ns.take k).length ≤ k := List.length_take_le _ _
        omega
      obtain ⟨rx0, rx1⟩ := hrx
      obtain ⟨ry0, ry1⟩ := hry
      clear hs hcl hms hcx hcy hf hby HT HFK hU hv'
      go_wp2_with fail
      refine wp_region_ext (by kernel_rfl) (by kernel_rfl) ?_
      repeat (go_big_quiet_step (first | (go_at_call 90; (first | (with_reducible exact Calls.ext_of (HC1.out _ (HU.out.trans (Ext.up _)))) | (with_reducible exact Calls.ext_of (HC2.out _ (HU.out.trans (Ext.up _)))))) | (go_at_call 88; exact Calls.ext_of (HPP.out _))))
      refine wpQuiet_nil ?_
      intro x5 hx5
      have HOut5 := Lib.hid (HOut.out.up hx5)
      have HRow5 := Lib.hid (HRow.out.trans (Up.row hx5 (by have := HHE.out; omega)))
      have HU5 := Lib.hid (HU.out.trans hx5)
      have cs : x5.cell? ⟨g, k, none⟩ = some (.string s) := (hx5.cell _ _ hgr).trans cs
      have hs5 := hx5.size
      have hgr5 : g < x5.heap.size := by omega
      have hOr5 : O < x5.heap.size := by omega
      obtain ⟨o0, o1, of, _⟩ := HOut5.out.cells
      obtain ⟨a0, a1, b0, b1, c0, c1, cf⟩ := HCF.out _ HRow5.out
      clear hx5 HOut HRow HU HC1 HC2 HPP
      cases f
      · have hr2 : Hid (r = (0, [], 3)) := Lib.hid (by rw [HRS.out, HFA.out rfl]; rfl)
        go_wp2
        refine bodyPost_ret (v := .tuple #[.agg #[.int .i64 0, .slice none 0 0], .int .i64 3]) (by simp [results, Tryd.results59, go_sem, c0, c1]) rfl ?_
        rw [hr2.out]
        exact ⟨⟨_, rfl, monos_nil _, cap_nil, fresh_nil w⟩, by repeat (first | exact HU5.out | refine HSET.out _ _ _ ?_)⟩
      have HBE : Hid (by' = cx + cy) := Lib.hid (HBY.out rfl)
      clear HFA HBY
      by_cases hz : by' = 0
      · subst hz
        have HO3 : Hid (outN l l' (ns.take (k + 1)) = outN l l' (ns.take k)) := Lib.hid (by
          rw [HO2.out, ← HBE.out]; simp [putM])
        go_wp2
        go_roundw
        case rel => exact ⟨k + 1, n2, va, vc, by omega, by go_num, HF2.out, by rw [HO3.out]; exact HOut5.out, HRow5.out⟩
        case measure => simp [intOf]; omega
      · have hy2 : (by' == 0) = false := by simpa using hz
        have hy3 : (by' != 0) = true := by simpa using hz
        have HO3 : Hid (outN l l' (ns.take (k + 1)) = outN l l' (ns.take k) ++ [(s, by')]) := Lib.hid (by
          rw [HO2.out, ← HBE.out]; unfold putM; rw [if_neg hz])
        have HKEY := Lib.hid (HOut5.out.key s by')
        have hHx : H ≤ x5.heap.size := HOut5.out.2.2.2.2
        clear hz c0 c1 cf a0 a1 b0 b1
        go_wp2_with fail
        have HSL := Lib.hid (SlAt.up (mono_sl x5 s by') ((Up.refl _).drew))
        go_region_law (refine wp_append_sl _ _ _ 22 rfl H 56 i0 _ 2 24 Tryd.underlying22 hi0 hz0 hz1 hz2 rfl (by decide) (.slice va n2 vc) n2 _ rfl (HOut5.out.2.2.1.alloc _).drew (.slice (some ⟨x5.heap.size, 0, none⟩) 1 1) 1 _ rfl HSL.out (mono_one s by') (by unfold maxLen; omega) (by omega) (by simp; omega) ?_; intro v1 w1 hown1 hg1 hat1 hnil1; obtain ⟨vb, vd, rfl⟩ := own_slice hown1; obtain ⟨d2, d3, HD2, HD3, HD4⟩ := HKEY.out w1 (undrew hg1); have HO1 := Lib.hid hown1; clear hown1 hg1 hat1 hnil1)
        all_goals
          obtain ⟨hf1, hf2⟩ := HOut5.out.done s by' HD2.out HD3.out HD4.out vb vd HO1.out
          go_wp2
          go_roundw
          case rel => exact ⟨k + 1, n2 + 1, vb, vd, by omega, by go_num, HF2.out, by rw [HO3.out]; exact hf1, HRow5.out.trans hf2⟩
          case measure => simp [intOf]; omega
    · have hlt2 : (m : Int) ≤ (k : Int) := by omega
      have hkn : k = m := by omega
      subst hkn
      have hta : ns.take k = ns := List.take_of_length_le (by rw [HM.out]; omega)
      have hr2 : Hid (r = (c, outN l l' ns, 0)) := Lib.hid (by
        have := HFK.out
        rw [hta] at this
        rw [HRS.out, this]; rfl)
      have HTA := Lib.hid hta
      clear hU hta
      go_wp2
      refine bodyPost_ret (v := .tuple #[.agg #[.int .i64 c, .slice va n2 vc], .int .i64 0]) (by simp [results, Tryd.results59, go_sem, c0, c1]) rfl ?_
      rw [hr2.out]
      refine ⟨⟨.slice va n2 vc, rfl, ?_, own_cap HOut.out.2.2.1, own_fresh HOut.out.2.2.1 (by omega)⟩, by repeat (first | exact HU.out | refine HSET.out _ _ _ ?_)⟩
      have hoo := HOut.out
      rw [HTA.out] at hoo
      have hle : n2 = (outN l l' ns).length := hoo.1
      show SlAt _ _ (outN l l' ns).length 2 _
      rw [← hle]
      refine SlAt.of_own (base := H) (e := 56) (xs := monoCells (outN l l' ns)) ?_ (own_max hoo.2.2.1) (fun i j hi hj => monoCells_get _ i j (by omega) hj)
      repeat (first | exact hoo.2.2.1 | refine ownsRow_setCell_below ?_ (by show w.heap.size + 1 + 1 < H; omega) _)
end Go.Proofs.YtahlecmlhdikjaaDoor
