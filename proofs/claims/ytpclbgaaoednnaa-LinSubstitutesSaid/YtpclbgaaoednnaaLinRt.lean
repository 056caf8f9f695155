/-
  Substitute of the reference: the walk, and its equality with the program's side.
-/
import Derived.Test.YtpclbgaaoednnaaLinRd
import Derived.Test.YtpclbgaaoednnaaLinQ3
namespace Go.Proofs.Ytpclbgaaoednnaa
open Go.ChangeShapes Go.WideShapes Go.ChangeAt Go.RowKit
set_option linter.unusedVariables false

def subRF (K : Int) (l : List Mono) (s : List UInt8) (K' : Int) (l' : List Mono) : Int × List Mono × Int :=
  if okL l && nameB s && okL l' then
    (if coefF s l = 0 then (K, l, 0)
      else if (scaleF K' l' (coefF s l)).2.2 ≠ 0 then (0, [], (scaleF K' l' (coefF s l)).2.2)
      else addF K (restL s l) (scaleF K' l' (coefF s l)).1 (scaleF K' l' (coefF s l)).2.1)
  else (0, [], 1)
theorem coef_cons (s : List UInt8) (m : Mono) (r : List Mono) : coefF s (m :: r) = if m.1.toList == s then m.2 else coefF s r := rfl
theorem by_coef (s : List UInt8) : ∀ (l : List Mono) (p : Option (List UInt8)) (a : Int), okFrom p l = true → byF s l a = if coefF s l = 0 then a else coefF s l
  | [], _, a, _ => rfl
  | m :: r, p, a, h => by
    obtain ⟨h1, h2, h3, h4⟩ := (okFrom_cons _ _ _).1 h
    rw [by_cons, coef_cons]
    by_cases hm : (m.1.toList == s) = true
    · rw [if_pos hm, if_pos hm, if_neg h2]
      exact (no_name s r m.1.toList (Or.inl (by simpa using hm)) h4).1 _
    · rw [if_neg hm, if_neg hm]
      exact by_coef s r _ a h4
theorem rest_none (s : List UInt8) : ∀ (l : List Mono) (p : Option (List UInt8)), okFrom p l = true → coefF s l = 0 → restL s l = l
  | [], _, _, _ => rfl
  | m :: r, p, h, g => by
    obtain ⟨h1, h2, h3, h4⟩ := (okFrom_cons _ _ _).1 h
    rw [coef_cons] at g
    rw [rest_cons]
    by_cases hm : (m.1.toList == s) = true
    · rw [if_pos hm] at g; exact absurd g h2
    · rw [if_neg hm] at g
      rw [if_neg hm, rest_none s r _ h4 g]
theorem merge_nil : ∀ (l : List Mono) (p : Option (List UInt8)) (acc : List Mono × Bool), okFrom p l = true → (∀ m ∈ l, In64 m.2) → mergeF l [] acc = (acc.1 ++ l, acc.2)
  | [], _, acc, _, _ => by rw [mergeF]; simp
  | m :: r, p, acc, h, g => by
    obtain ⟨h1, h2, h3, h4⟩ := (okFrom_cons _ _ _).1 h
    have hm := g m (by simp)
    have hf : fitB (m.2 + 0) = true := by rw [Int.add_zero]; exact fit_true hm
    have e : stepA acc m.1 m.2 0 = (acc.1 ++ [m], acc.2) := by
      unfold stepA
      rw [fit_wrap hf, hf, Int.add_zero, if_neg h2, Bool.and_true]
    rw [mergeF, e, merge_nil r _ _ h4 fun x hx => g x (by simp [hx])]
    simp
theorem subst_eq {K : Int} {l : List Mono} (s : List UInt8) (K' : Int) (l' : List Mono) (hK : In64 K) (hl : ∀ m ∈ l, In64 m.2) : subRF K l s K' l' = substF K l s K' l' := by
  unfold subRF substF
  cases h : (okL l && nameB s && okL l')
  · rfl
  · obtain ⟨h12, h3⟩ := Bool.and_eq_true_iff.1 h
    obtain ⟨h1, h2⟩ := Bool.and_eq_true_iff.1 h12
    rw [if_pos rfl, if_pos rfl, by_coef s l none 0 h1]
    by_cases hc : coefF s l = 0
    · rw [if_pos hc, if_pos hc]
      have e : scaleF K' l' 0 = (0, [], 0) := by unfold scaleF; rw [if_pos h3, if_pos rfl]
      rw [e, rest_none s l none h1 hc]
      show _ = if (0 : Int) ≠ 0 then _ else _
      rw [if_neg (by decide)]
      unfold addF
      have hf : fitB (K + 0) = true := by rw [Int.add_zero]; exact fit_true hK
      rw [h1, merge_nil l none _ h1 hl, fit_wrap hf, hf, Int.add_zero]
      rfl
    · rw [if_neg hc, if_neg hc]

set_option maxHeartbeats 16000000 in
set_option maxRecDepth 100000 in
theorem r05_Substitute (K K' : Int) (s : ByteArray) (v v' : Value) (l l' : List Mono) (w : World) (hv : Part w v l) (hv' : Part w v' l') (hK : In64 K) (hK' : In64 K') (hlen : l.length ≤ 1000) (hlen' : l'.length ≤ 1000) :
    Calls Try.prog 32 #[.agg #[.int .i64 K, v], .string s, .agg #[.int .i64 K', v']] w fun e w' => LinErr e w' (subRF K l s.toList K' l') ∧ Up w w' := by
  obtain ⟨i0, hi0, hz0, hz1, hz2⟩ := info_parts mono_info
  obtain ⟨a, cap, rfl⟩ := hv.1.slice
  obtain ⟨a', cap', rfl⟩ := hv'.1.slice
  obtain ⟨n, hn⟩ : ∃ n, l.length = n := ⟨_, rfl⟩
  obtain ⟨n', hn'⟩ : ∃ n, l'.length = n := ⟨_, rfl⟩
  have HN := Lib.hid hn
  have HLN' : Hid (l'.length ≤ 1000) := Lib.hid hlen'
  rw [hn] at hv hlen ⊢
  rw [hn'] at hv' hlen' ⊢
  have hnI : (n : Int) ≤ 1000 := by omega
  have HV := Lib.hid hv.1
  have HV' := Lib.hid hv'.1
  have HRG := Lib.hid hv.2.1
  obtain ⟨sl, hsl⟩ : ∃ x, s.toList = x := ⟨_, rfl⟩
  obtain ⟨q, hq⟩ : ∃ q, okL l = q := ⟨_, rfl⟩
  obtain ⟨qn, hqn⟩ : ∃ q, nameB sl = q := ⟨_, rfl⟩
  obtain ⟨q', hq'⟩ : ∃ q, okL l' = q := ⟨_, rfl⟩
  have HVA : Hid (∀ (w : World) (hv : MonosAt w (.slice a n cap) l), Calls Try.prog 30 #[.agg #[.int .i64 K, .slice a n cap]] w fun e w' => e = .returned (.int .i64 (errOf q)) ∧ Up w w') := Lib.hid fun w hv => by
    have := r05_Validate K (.slice a n cap) l w hv
    rw [hq] at this; exact this
  have HVN : Hid (∀ w, Calls Try.prog 43 #[.string s] w fun e w' => e = .returned (.bool qn) ∧ Up w w') := Lib.hid fun w => by
    have := base_Name s w
    rw [hsl, hqn] at this; exact this
  have HVB : Hid (∀ (w : World) (hv : MonosAt w (.slice a' n' cap') l'), Calls Try.prog 30 #[.agg #[.int .i64 K', .slice a' n' cap']] w fun e w' => e = .returned (.int .i64 (errOf q')) ∧ Up w w') := Lib.hid fun w hv => by
    have := r05_Validate K' (.slice a' n' cap') l' w hv
    rw [hq'] at this; exact this
  obtain ⟨y, hy⟩ : ∃ y, coefF sl l = y := ⟨_, rfl⟩
  have hyr : In64 y := hy ▸ coef_rng _ _ (Rng.mem hv.2.1)
  have HYR := Lib.hid hyr
  have HCO : Hid (∀ (w : World) (hv : MonosAt w (.slice a n cap) l), Calls Try.prog 35 #[.agg #[.int .i64 K, .slice a n cap], .string s] w fun e w' => e = .returned (.int .i64 y) ∧ Up w w') := Lib.hid fun w hv => by
    have := r05_Coeff K s (.slice a n cap) l w hv
    rw [hsl, hy] at this; exact this
  have HCA := Lib.hid hv.2.2
  obtain ⟨Ks, ls, es, hsc⟩ : ∃ a b c, scaleF K' l' y = (a, b, c) := ⟨_, _, _, rfl⟩
  have hfc := scaleF_facts K' l' y
  rw [hsc] at hfc
  have HSC : Hid (∀ (w : World) (hv : MonosAt w (.slice a' n' cap') l') (hy : In64 y), Calls Try.prog 23 #[.agg #[.int .i64 K', .slice a' n' cap'], .int .i64 y] w fun e w' => LinErr e w' (Ks, ls, es) ∧ Up w w') := Lib.hid fun w hv hy => by
    have := r05_Scale K' y (.slice a' n' cap') l' w hv hK' hv'.2.1 hy HLN'.out
    rw [hsc] at this; exact this
  have HAD : Hid (∀ (w : World) (v1 v2 : Value) (h1 : MonosAt w v1 (restL sl l)) (c1 : CapOk v1) (h2 : MonosAt w v2 ls) (c2 : CapOk v2), Calls Try.prog 25 #[.agg #[.int .i64 K, v1], .agg #[.int .i64 Ks, v2]] w fun e w' => LinErrF w e w' (addF K (restL sl l) Ks ls) ∧ Up w w') := Lib.hid fun w v1 v2 h1 c1 h2 c2 => by
    rw [← add_eq]
    exact r05_Add K Ks v1 v2 (restL sl l) ls w ⟨h1, restL_rng HRG.out.mem, c1⟩ ⟨h2, hfc.2.1, c2⟩ hK hfc.1 (Nat.le_trans (List.length_filter_le _ _) (by omega)) (Nat.le_trans hfc.2.2 HLN'.out)
  have HR : Hid (subRF K l s.toList K' l' = if q && qn && q' then (if y = 0 then (K, l, 0) else if es ≠ 0 then (0, [], es) else addF K (restL sl l) Ks ls) else (0, [], 1)) := Lib.hid (by unfold subRF; rw [hsl, hq, hqn, hq', hy, hsc])
  obtain ⟨r, hr⟩ : ∃ r, subRF K l s.toList K' l' = r := ⟨_, rfl⟩
  rw [hr] at HR ⊢
  have HY := Lib.hid hy
  have HSL := Lib.hid hsl
  clear hsl
  clear hv hv' hn hn' hq hqn hq' hr hK hK' hy hsc hfc hyr
  go_enter Try.func32, Try.ntmps32
  go_wp2_with fail
  refine (HVA.out _ (HV.out.up ((((Up.refl w).alloc _).alloc _).alloc _))).mono ?_
  rintro e x1 ⟨rfl, hx1⟩
  have hs := hx1.size
  rw [size_alloc, size_alloc, size_alloc] at hs
  have a0 : x1.cell? ⟨w.heap.size, 0, none⟩ = some (.int .i64 K) := (hx1.cell _ _ (by rw [size_alloc, size_alloc, size_alloc]; omega)).trans (by go_simp)
  have a1 : x1.cell? ⟨w.heap.size, 1, none⟩ = some (.slice a n cap) := (hx1.cell _ _ (by rw [size_alloc, size_alloc, size_alloc]; omega)).trans (by go_simp)
  have b0 : x1.cell? ⟨w.heap.size + 1, 0, none⟩ = some (.int .i64 K') := (hx1.cell _ _ (by rw [size_alloc, size_alloc, size_alloc]; omega)).trans (by go_simp)
  have b1 : x1.cell? ⟨w.heap.size + 1, 1, none⟩ = some (.slice a' n' cap') := (hx1.cell _ _ (by rw [size_alloc, size_alloc, size_alloc]; omega)).trans (by go_simp)
  have c0 : x1.cell? ⟨w.heap.size + 1 + 1, 0, none⟩ = some (.int .i64 0) := (hx1.cell _ _ (by rw [size_alloc, size_alloc, size_alloc]; omega)).trans (by go_simp)
  have c1 : x1.cell? ⟨w.heap.size + 1 + 1, 1, none⟩ = some (.slice none 0 0) := (hx1.cell _ _ (by rw [size_alloc, size_alloc, size_alloc]; omega)).trans (by go_simp)
  have cf : ∀ o, x1.frozen? ⟨w.heap.size + 1 + 1, o, none⟩ = false := fun o => (hx1.frozen _ _ (by rw [size_alloc, size_alloc, size_alloc]; omega)).trans (by go_simp)
  have HU1 := Lib.hid (((((Up.refl w).alloc (.cells #[.int .i64 K, .slice a n cap] 25)).alloc (.cells #[.int .i64 K', .slice a' n' cap'] 25)).alloc (.cells #[.int .i64 0, .slice none 0 0] 25)).trans hx1)
  clear hx1
  have hset : ∀ (x : World) (v : Value) (o : Nat), Up w x → Up w (x.setCell ⟨w.heap.size + 1 + 1, o, none⟩ v) := fun x v o u => u.setCell (by show w.heap.size ≤ w.heap.size + 1 + 1; omega) v
  have HSET := Lib.hid hset
  clear hset
  have q0 : w.heap.size < x1.heap.size := by omega
  have q1 : w.heap.size + 1 < x1.heap.size := by omega
  have q2 : w.heap.size + 1 + 1 < x1.heap.size := by omega
  cases q
  · rw [show errOf false = 1 from rfl]
    have hr2 : r = (0, [], 1) := by rw [HR.out]; rfl
    have HR2 := Lib.hid hr2
    clear hr2
    go_wp2
    refine bodyPost_ret (v := .tuple #[.agg #[.int .i64 0, .slice none 0 0], .int .i64 1]) (by simp [results, Try.results32, go_sem, c0, c1]) rfl ?_
    rw [HR2.out]
    exact ⟨⟨_, rfl, monos_nil _, cap_nil⟩, by repeat (first | exact HU1.out | refine HSET.out _ _ _ ?_)⟩
  rw [show errOf true = 0 from rfl]
  go_wp2_with fail
  refine (HVN.out _).mono ?_
  rintro e y1 ⟨rfl, hy1⟩
  have hsy := hy1.size
  replace a0 := (hy1.cell _ _ q0).trans a0
  replace a1 := (hy1.cell _ _ q0).trans a1
  replace b0 := (hy1.cell _ _ q1).trans b0
  replace b1 := (hy1.cell _ _ q1).trans b1
  replace c0 := (hy1.cell _ _ q2).trans c0
  replace c1 := (hy1.cell _ _ q2).trans c1
  replace cf := fun o => (hy1.frozen _ _ q2).trans (cf o)
  replace HU1 := Lib.hid (HU1.out.trans hy1)
  replace q0 : w.heap.size < y1.heap.size := by omega
  replace q1 : w.heap.size + 1 < y1.heap.size := by omega
  replace q2 : w.heap.size + 1 + 1 < y1.heap.size := by omega
  clear hy1 hsy hs
  cases qn
  · have hr2 : r = (0, [], 1) := by rw [HR.out]; rfl
    have HR2 := Lib.hid hr2
    clear hr2
    go_wp2
    refine bodyPost_ret (v := .tuple #[.agg #[.int .i64 0, .slice none 0 0], .int .i64 1]) (by simp [results, Try.results32, go_sem, c0, c1]) rfl ?_
    rw [HR2.out]
    exact ⟨⟨_, rfl, monos_nil _, cap_nil⟩, by repeat (first | exact HU1.out | refine HSET.out _ _ _ ?_)⟩
  go_wp2_with fail
  refine (HVB.out _ (HV'.out.up HU1.out)).mono ?_
  rintro e x2 ⟨rfl, hx2⟩
  have hs2 := hx2.size
  have a0' := (hx2.cell _ _ q0).trans a0
  have a1' := (hx2.cell _ _ q0).trans a1
  have b0' := (hx2.cell _ _ q1).trans b0
  have b1' := (hx2.cell _ _ q1).trans b1
  have c0' := (hx2.cell _ _ q2).trans c0
  have c1' := (hx2.cell _ _ q2).trans c1
  have cf' := fun o => (hx2.frozen _ _ q2).trans (cf o)
  replace HU1 := Lib.hid (HU1.out.trans hx2)
  have p0 : w.heap.size < x2.heap.size := by omega
  have p1 : w.heap.size + 1 < x2.heap.size := by omega
  have p2 : w.heap.size + 1 + 1 < x2.heap.size := by omega
  clear hx2 a0 a1 b0 b1 c0 c1 cf q0 q1 q2 hs2
  cases q'
  · rw [show errOf false = 1 from rfl]
    have hr2 : r = (0, [], 1) := by rw [HR.out]; rfl
    have HR2 := Lib.hid hr2
    clear hr2
    go_wp2
    refine bodyPost_ret (v := .tuple #[.agg #[.int .i64 0, .slice none 0 0], .int .i64 1]) (by simp [results, Try.results32, go_sem, c0', c1']) rfl ?_
    rw [HR2.out]
    exact ⟨⟨_, rfl, monos_nil _, cap_nil⟩, by repeat (first | exact HU1.out | refine HSET.out _ _ _ ?_)⟩
  rw [show errOf true = 0 from rfl]
  go_wp2_with fail
  refine (HCO.out _ (HV.out.up HU1.out)).mono ?_
  rintro e x3 ⟨rfl, hx3⟩
  have hs3 := hx3.size
  have a0 := (hx3.cell _ _ p0).trans a0'
  have a1 := (hx3.cell _ _ p0).trans a1'
  have b0 := (hx3.cell _ _ p1).trans b0'
  have b1 := (hx3.cell _ _ p1).trans b1'
  have c0 := (hx3.cell _ _ p2).trans c0'
  have c1 := (hx3.cell _ _ p2).trans c1'
  have cf := fun o => (hx3.frozen _ _ p2).trans (cf' o)
  replace HU1 := Lib.hid (HU1.out.trans hx3)
  have q0 : w.heap.size < x3.heap.size := by omega
  have q1 : w.heap.size + 1 < x3.heap.size := by omega
  have q2 : w.heap.size + 1 + 1 < x3.heap.size := by omega
  clear hx3 a0' a1' b0' b1' c0' c1' cf' p0 p1 p2 hs3
  by_cases hy0 : y = 0
  · subst hy0
    have HR2 : Hid (r = (K, l, 0)) := Lib.hid (by rw [HR.out]; rfl)
    go_wp2
    refine bodyPost_ret (v := .tuple #[.agg #[.int .i64 K, .slice a n cap], .int .i64 0]) (by simp [results, Try.results32, go_sem, c0, c1]) rfl ?_
    rw [HR2.out]
    have hfin : Up w ((x3.setCell ⟨w.heap.size + 1 + 1, 0, none⟩ (.int .i64 K)).setCell ⟨w.heap.size + 1 + 1, 1, none⟩ (.slice a n cap)) := by repeat (first | exact HU1.out | refine HSET.out _ _ _ ?_)
    exact ⟨⟨_, rfl, HV.out.up hfin, HCA.out⟩, hfin⟩
  have hy1 : (y == 0) = false := by simpa using hy0
  have HRR : Hid (r = if es ≠ 0 then (0, [], es) else addF K (restL sl l) Ks ls) := Lib.hid (by rw [HR.out]; exact if_neg hy0)
  clear HR hy0
  go_wp2
  obtain ⟨O, hO⟩ : ∃ O, x3.heap.size = O := ⟨_, rfl⟩
  obtain ⟨W3, hW3⟩ : ∃ W, x3.alloc (.cells #[.int .i64 K, .slice none 0 0] 25) = W := ⟨_, rfl⟩
  have hO3 : OutAt W3 (O + 1) O K [] 0 none 0 := by
    refine ⟨rfl, ?_, World.ownsRow_nil _ _ _ _, by omega, ?_⟩
    · rw [← hW3, ← hO]; exact heap_alloc_new x3 _
    · rw [← hW3, size_alloc, hO]; omega
  have HU3 : Hid (Up w W3) := Lib.hid (hW3 ▸ HU1.out.alloc _)
  have u3 : Up x3 W3 := hW3 ▸ (Up.refl x3).alloc _
  have e0 := (u3.cell _ 0 q1).trans b0
  have e1 := (u3.cell _ 1 q1).trans b1
  have e2 := (u3.cell _ 0 q2).trans c0
  have e3 := (u3.cell _ 1 q2).trans c1
  have ef := fun o => (u3.frozen _ o q2).trans (cf o)
  have hs3 : W3.heap.size = O + 1 := by rw [← hW3, size_alloc, hO]
  have ea0 := (u3.cell _ 0 q0).trans a0
  have ea1 := (u3.cell _ 1 q0).trans a1
  rw [hO] at q0 q1 q2
  rw [hW3]
  try rw [hO]
  have HO3 := Lib.hid hO3
  have HE0 := Lib.hid e0
  have HE1 := Lib.hid e1
  have HE2 := Lib.hid e2
  have HE3 := Lib.hid e3
  have HEF := Lib.hid ef
  have HEA1 := Lib.hid ea1
  clear hO hW3 a0 a1 b0 b1 c0 c1 cf hO3 e0 e1 e2 e3 ef HU1 u3 HVA HVB HVN HCO HCA ea0 ea1
  go_loopw [10] (fun i wr => ∃ (k m : Nat) (va : Option Addr) (vc : Nat), k ≤ n ∧ m ≤ k ∧ i = .int .i64 k ∧ OutAt wr (O + 1) O K (restL sl (l.take k)) m va vc ∧ UpRow (O + 1) O W3 wr) (fun i _ => n - (intOf i).toNat)
  case atStart => exact ⟨0, 0, none, 0, by omega, by omega, rfl, HO3.out, UpRow.refl _ _ _⟩
  case round =>
    rename_i wr
    obtain ⟨k, m, va, vc, hk, hmk, rfl, hOut, hRow⟩ := hrel
    have hU := UpRow.up HU3.out (by omega : w.heap.size ≤ O) (by omega) hRow
    obtain ⟨o0, o1, of, ol⟩ := hOut.cells
    have HOut := Lib.hid hOut
    have HRow := Lib.hid hRow
    have t1 : wr.cell? ⟨w.heap.size, 1, none⟩ = some (.slice a n cap) := (hRow.cell _ _ (by omega) (by omega)).trans HEA1.out
    have hwq : w.heap.size < wr.heap.size := by omega
    clear hOut hRow
    by_cases hlt : k < n
    · have hlt2 : (k : Int) < (n : Int) := by omega
      have hk0 : (0 : Int) ≤ (k : Int) := by omega
      obtain ⟨bl, off, s', b, rfl, z1, z2, z3, z4⟩ := HV.out.elem hU k (by rw [HN.out]; exact hlt) HN.out rfl
      have htk := take_snoc (by rw [HN.out]; exact hlt) z2
      have q5 : bl < wr.heap.size := by have := hU.size; omega
      have q6 : O < wr.heap.size := ol
      have HKEY := Lib.hid (HOut.out.key s' b)
      have hsz9 : O + 1 ≤ wr.heap.size := by omega
      have hmI : (m : Int) ≤ 1000 := by omega
      have HO2 : Hid (restL sl (l.take (k + 1)) = restL sl (l.take k) ++ (if s'.toList == sl then [] else [(s', b)])) := Lib.hid (by rw [htk, restL_snoc])
      have HMK := Lib.hid hmk
      have HUW := Lib.hid hU
      clear z2 htk hU
      cases hc : (s'.toList == sl)
      · have hc2 : ¬ s'.toList = sl := by simpa using hc
        rw [hc] at HO2
        have hc3 : (s'.toList == s.toList) = false := by rw [HSL.out]; exact hc
        have hc4 : ¬ s'.toList = s.toList := by rw [HSL.out]; exact hc2
        have hc5 : (s'.toList != s.toList) = true := by simpa using hc4
        clear hc hc2
        go_wp2_with fail
        have HMS := Lib.hid (SlAt.up (mono_sl wr s' b) ((Up.refl _).drew))
        go_region_law (refine wp_append_sl _ _ _ 23 rfl (O + 1) 59 i0 _ 2 24 Try.underlying23 hi0 hz0 hz1 hz2 rfl (by decide) (.slice va m vc) m _ rfl (HOut.out.2.2.1.alloc _).drew (.slice (some ⟨wr.heap.size, 0, none⟩) 1 1) 1 _ rfl HMS.out (mono_one s' b) (by unfold maxLen; omega) (by omega) (by simp; omega) ?_; intro v1 w1 hown1 hg1 hat1 hnil1; obtain ⟨vb, vd, rfl⟩ := own_slice hown1; obtain ⟨d2, d3, HD2, HD3, HD4⟩ := HKEY.out w1 (undrew hg1); have HO1 := Lib.hid hown1; clear hown1 hg1 hat1 hnil1)
        all_goals
          obtain ⟨hf1, hf2⟩ := HOut.out.done s' b HD2.out HD3.out HD4.out vb vd HO1.out
          go_wp2
          go_roundw
          case rel => exact ⟨k + 1, m + 1, vb, vd, by omega, by have := HMK.out; omega, by go_num, by rw [HO2.out]; exact hf1, HRow.out.trans hf2⟩
          case measure => simp [intOf]; omega
      · have hc2 : s'.toList = sl := by simpa using hc
        rw [hc] at HO2
        have hc3 : (s'.toList == s.toList) = true := by rw [HSL.out]; exact hc
        have hc4 : s'.toList = s.toList := by rw [HSL.out]; exact hc2
        clear hc hc2
        go_wp2
        go_roundw
        case rel => exact ⟨k + 1, m, va, vc, by omega, by have := HMK.out; omega, by go_num, by rw [HO2.out]; simp only [if_true, List.append_nil]; exact HOut.out, HRow.out⟩
        case measure => simp [intOf]; omega
    · have hlt2 : (n : Int) ≤ (k : Int) := by omega
      have hta : l.take k = l := List.take_of_length_le (by rw [HN.out]; omega)
      have hoo := HOut.out
      rw [hta] at hoo
      have HOO := Lib.hid hoo
      have g0 := (HRow.out.cell (w.heap.size + 1) 0 (by omega) (by omega)).trans HE0.out
      have g1 := (HRow.out.cell (w.heap.size + 1) 1 (by omega) (by omega)).trans HE1.out
      have g2 := (HRow.out.cell (w.heap.size + 1 + 1) 0 (by omega) (by omega)).trans HE2.out
      have g3 := (HRow.out.cell (w.heap.size + 1 + 1) 1 (by omega) (by omega)).trans HE3.out
      have gf : ∀ o, wr.frozen? ⟨w.heap.size + 1 + 1, o, none⟩ = false := fun o => by
        have h1 := HRow.out.block (w.heap.size + 1 + 1) (by omega) (by omega)
        have h2 := HEF.out o
        unfold World.frozen? at h2 ⊢
        rw [h1]; exact h2
      have p3 : w.heap.size + 1 < wr.heap.size := by omega
      have p4 : w.heap.size + 1 + 1 < wr.heap.size := by omega
      have HUW := Lib.hid hU
      have hms := hoo.monos (by omega)
      have HMS := Lib.hid hms
      have HCP := Lib.hid (own_cap hoo.2.2.1)
      clear hta hoo HOut hU hms
      go_wp2_with fail
      refine (HSC.out _ (HV'.out.up HUW.out) HYR.out).mono ?_
      rintro e x5 ⟨⟨v5, rfl, hm5, hc5⟩, hx5⟩
      dsimp only at hm5
      have h5s := hx5.size
      have o0' := (hx5.cell _ _ ol).trans o0
      have o1' := (hx5.cell _ _ ol).trans o1
      have g2' := (hx5.cell _ _ p4).trans g2
      have g3' := (hx5.cell _ _ p4).trans g3
      have gf' := fun o => (hx5.frozen _ _ p4).trans (gf o)
      replace HUW := Lib.hid (HUW.out.trans hx5)
      replace HMS := Lib.hid (HMS.out.up hx5)
      obtain ⟨a5, cap5, rfl⟩ := hm5.slice
      obtain ⟨n5, hn5⟩ : ∃ n, ls.length = n := ⟨_, rfl⟩
      rw [hn5] at hm5 hc5 ⊢
      have HM5 := Lib.hid hm5
      have HC5 := Lib.hid hc5
      have r1 : O < x5.heap.size := by omega
      have r2 : w.heap.size + 1 + 1 < x5.heap.size := by omega
      clear hx5 o0 o1 g0 g1 g2 g3 gf of hm5 hc5 hn5 h5s p3 p4
      by_cases hes : es = 0
      · subst hes
        have HRQ : Hid (r = addF K (restL sl l) Ks ls) := Lib.hid (by rw [HRR.out]; simp)
        clear HRR
        go_wp2_with fail
        refine (HAD.out _ _ _ (HMS.out.up ((Up.refl x5).alloc _)) HCP.out (HM5.out.up ((Up.refl x5).alloc _)) HC5.out).mono ?_
        rintro e x6 ⟨⟨v6, rfl, hm6, hc6, hf6⟩, hx6⟩
        have h6s := hx6.size
        rw [size_alloc] at h6s
        have k2 : x6.cell? ⟨w.heap.size + 1 + 1, 0, none⟩ = some (.int .i64 0) := (hx6.cell _ _ (by rw [size_alloc]; omega)).trans ((((Up.refl x5).alloc _).cell _ _ r2).trans g2')
        have k3 : x6.cell? ⟨w.heap.size + 1 + 1, 1, none⟩ = some (.slice none 0 0) := (hx6.cell _ _ (by rw [size_alloc]; omega)).trans ((((Up.refl x5).alloc _).cell _ _ r2).trans g3')
        have kf : ∀ o, x6.frozen? ⟨w.heap.size + 1 + 1, o, none⟩ = false := fun o => (hx6.frozen _ _ (by rw [size_alloc]; omega)).trans ((((Up.refl x5).alloc (.cells #[.int .i64 Ks, .slice a5 n5 cap5] 25)).frozen _ _ r2).trans (gf' o))
        have HU6 := Lib.hid ((HUW.out.alloc _).trans hx6)
        rw [← HRQ.out] at hm6 ⊢
        obtain ⟨rK, rl, re⟩ := r
        dsimp only at hm6 ⊢
        have hff : ∀ a n c, v6 = .slice (some a) n c → a.block ≠ w.heap.size + 1 + 1 := fun a n c hv => by
          have := hf6 a n c hv
          rw [size_alloc] at this
          omega
        have HFF := Lib.hid hff
        have HFR : Hid (FreshV w v6) := Lib.hid (fun a n c hv => by
          have := hf6 a n c hv
          rw [size_alloc] at this
          omega)
        have HM6 := Lib.hid hm6
        have HC6 := Lib.hid hc6
        clear hx6 hf6 hff g2' g3' gf' o0' o1'
        obtain ⟨a6, cap6, rfl⟩ := hm6.slice
        clear hm6 hc6
        go_wp2
        refine bodyPost_ret (v := .tuple #[.agg #[.int .i64 rK, .slice a6 rl.length cap6], .int .i64 re]) (by simp [results, Try.results32, go_sem, k2, k3]) rfl ?_
        refine ⟨⟨_, rfl, ?_, HC6.out⟩, by repeat (first | exact HU6.out | refine HSET.out _ _ _ ?_)⟩
        show SlAt _ _ rl.length 2 _
        repeat (first | exact HM6.out | refine SlAt.far ?_ HFF.out _ _)
      · have he1 : (es == 0) = false := by simpa using hes
        have HRQ : Hid (r = (0, [], es)) := Lib.hid (by rw [HRR.out, if_pos hes])
        clear HRR
        go_wp2
        obtain ⟨x', hx'⟩ : ∃ x', (x5.setCell ⟨w.heap.size + 1 + 1, 0, none⟩ (.int .i64 0)).setCell ⟨w.heap.size + 1 + 1, 1, none⟩ (.slice none 0 0) = x' := ⟨_, rfl⟩
        have k0 : x'.cell? ⟨w.heap.size + 1 + 1, 0, none⟩ = some (.int .i64 0) := by rw [← hx']; clear hx'; go_simp
        have k1 : x'.cell? ⟨w.heap.size + 1 + 1, 1, none⟩ = some (.slice none 0 0) := by rw [← hx']; clear k0 hx'; go_simp
        have HX : Up w x' := by
          rw [← hx']
          repeat (first | exact HUW.out | refine HSET.out _ _ _ ?_)
        have kq : w.heap.size + 1 + 1 < x'.heap.size := by rw [← hx', set_size, set_size]; exact r2
        rw [hx']
        clear hx'
        refine bodyPost_ret (v := .tuple #[.agg #[.int .i64 0, .slice none 0 0], .int .i64 es]) (by simp [results, Try.results32, go_sem, World.cell?_alloc_lt, kq, k0, k1]) rfl ?_
        rw [HRQ.out]
        exact ⟨⟨_, rfl, monos_nil _, cap_nil⟩, HX.alloc _⟩
end Go.Proofs.Ytpclbgaaoednnaa
