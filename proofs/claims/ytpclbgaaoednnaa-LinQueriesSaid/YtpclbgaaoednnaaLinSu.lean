/-
  Substitute of the program's side.
-/
import Derived.Test.YtpclbgaaoednnaaLinAd
namespace Go.Proofs.Ytpclbgaaoednnaa
open Go.ChangeShapes Go.WideShapes Go.ChangeAt Go.RowKit
set_option linter.unusedVariables false

def byF (s : List UInt8) : List Mono → Int → Int
  | [], a => a
  | m :: r, a => byF s r (if m.1.toList == s then m.2 else a)
def restL (s : List UInt8) (l : List Mono) : List Mono := l.filter fun m => !(m.1.toList == s)
def substF (K : Int) (l : List Mono) (s : List UInt8) (K' : Int) (l' : List Mono) : Int × List Mono × Int :=
  if okL l && nameB s && okL l' then
    (if (scaleF K' l' (byF s l 0)).2.2 ≠ 0 then (0, [], (scaleF K' l' (byF s l 0)).2.2)
      else addF K (restL s l) (scaleF K' l' (byF s l 0)).1 (scaleF K' l' (byF s l 0)).2.1)
  else (0, [], 1)

theorem mulR_in64 (a b : Int) : In64 (mulR a b).1 := by
  unfold mulR
  cases h : fitB (a * b)
  · exact (⟨by decide, by decide⟩ : In64 0)
  · unfold fitB at h; simp at h; exact h
theorem outL_rng (y : Int) (l : List Mono) : Rng (outL y l) := fun k hk => by
  have hk' : k < l.length := by simpa [outL] using hk
  have : (outL y l).getD k m0 = ((l.getD k m0).1, (mulR (l.getD k m0).2 y).1) := by
    unfold outL
    rw [List.getD_eq_getElem?_getD, List.getElem?_map, List.getD_eq_getElem?_getD, List.getElem?_eq_getElem hk']; rfl
  rw [this]
  exact mulR_in64 _ _
theorem scaleF_facts (K : Int) (l : List Mono) (y : Int) : In64 (scaleF K l y).1 ∧ Rng (scaleF K l y).2.1 ∧ (scaleF K l y).2.1.length ≤ l.length := by
  have h0 : In64 0 := ⟨by decide, by decide⟩
  have hn : Rng [] := fun k hk => absurd hk (by simp)
  unfold scaleF
  split
  · split
    · exact ⟨h0, hn, by simp⟩
    · split
      · rename_i h
        have hf := (Bool.and_eq_true_iff.1 h).1
        unfold fitB at hf; simp at hf
        exact ⟨hf, outL_rng y l, by simp [outL]⟩
      · exact ⟨h0, hn, by simp⟩
  · exact ⟨h0, hn, by simp⟩
theorem restL_snoc (s : List UInt8) (l : List Mono) (m : Mono) : restL s (l ++ [m]) = restL s l ++ (if m.1.toList == s then [] else [m]) := by
  unfold restL
  rw [List.filter_append]
  congr 1
  cases h : (m.1.toList == s) <;> simp [List.filter, h]
theorem restL_rng {s : List UInt8} {l : List Mono} (h : ∀ m ∈ l, In64 m.2) : Rng (restL s l) := fun k hk => by
  have : (restL s l).getD k m0 ∈ restL s l := by
    rw [List.getD_eq_getElem?_getD, List.getElem?_eq_getElem hk]; exact List.getElem_mem hk
  exact h _ (List.mem_filter.1 this).1
theorem Rng.mem {l : List Mono} (h : Rng l) : ∀ m ∈ l, In64 m.2 := fun m hm => by
  obtain ⟨k, hk, rfl⟩ := List.getElem_of_mem hm
  have := h k hk
  rw [List.getD_eq_getElem?_getD, List.getElem?_eq_getElem hk] at this
  exact this

set_option maxHeartbeats 8000000 in
set_option maxRecDepth 100000 in
theorem lin_Substitute (K K' : Int) (s : ByteArray) (v v' : Value) (l l' : List Mono) (w : World) (hv : Part w v l) (hv' : Part w v' l') (hK : In64 K) (hK' : In64 K') (hlen : l.length ≤ 1000) (hlen' : l'.length ≤ 1000) :
    Calls Try.prog 31 #[.agg #[.int .i64 K, v], .string s, .agg #[.int .i64 K', v']] w fun e w' => LinErrF w e w' (substF K l s.toList K' l') ∧ Up w w' := by
  obtain ⟨i0, hi0, hz0, hz1, hz2⟩ := info_parts mono_info
  obtain ⟨a, cap, rfl⟩ := hv.1.slice
  obtain ⟨a', cap', rfl⟩ := hv'.1.slice
  obtain ⟨n, hn⟩ : ∃ n, l.length = n := ⟨_, rfl⟩
  obtain ⟨n', hn'⟩ : ∃ n, l'.length = n := ⟨_, rfl⟩
  have HN := Lib.hid hn
  have HLN' : Hid (l'.length ≤ 1000) := Lib.hid hlen'
  rw [hn] at hv hlen ⊢
  rw [hn'] at hv' hlen' ⊢
  have hnI : (n : Int) ≤ 1000 := by omega
  have HV := Lib.hid hv.1
  have HV' := Lib.hid hv'.1
  have HRG := Lib.hid hv.2.1
  obtain ⟨sl, hsl⟩ : ∃ x, s.toList = x := ⟨_, rfl⟩
  obtain ⟨q, hq⟩ : ∃ q, okL l = q := ⟨_, rfl⟩
  obtain ⟨qn, hqn⟩ : ∃ q, nameB sl = q := ⟨_, rfl⟩
  obtain ⟨q', hq'⟩ : ∃ q, okL l' = q := ⟨_, rfl⟩
  have HVA : Hid (∀ (w : World) (hv : MonosAt w (.slice a n cap) l), Calls Try.prog 44 #[.agg #[.int .i64 K, .slice a n cap]] w fun e w' => e = .returned (.int .i64 (errOf q)) ∧ Up w w') := Lib.hid fun w hv => by
    have := lin_Validate K (.slice a n cap) l w hv
    rw [hq] at this; exact this
  have HVN : Hid (∀ w, Calls Try.prog 42 #[.string s] w fun e w' => e = .returned (.bool qn) ∧ w' = w) := Lib.hid fun w => by
    have := lin_identifier s w
    rw [hsl, hqn] at this; exact this
  have HVB : Hid (∀ (w : World) (hv : MonosAt w (.slice a' n' cap') l'), Calls Try.prog 44 #[.agg #[.int .i64 K', .slice a' n' cap']] w fun e w' => e = .returned (.int .i64 (errOf q')) ∧ Up w w') := Lib.hid fun w hv => by
    have := lin_Validate K' (.slice a' n' cap') l' w hv
    rw [hq'] at this; exact this
  obtain ⟨y, hy⟩ : ∃ y, byF sl l 0 = y := ⟨_, rfl⟩
  obtain ⟨Ks, ls, es, hsc⟩ : ∃ a b c, scaleF K' l' y = (a, b, c) := ⟨_, _, _, rfl⟩
  have hfc := scaleF_facts K' l' y
  rw [hsc] at hfc
  have HSC : Hid (∀ (w : World) (hv : MonosAt w (.slice a' n' cap') l') (hy : In64 y), Calls Try.prog 22 #[.agg #[.int .i64 K', .slice a' n' cap'], .int .i64 y] w fun e w' => LinErr e w' (Ks, ls, es) ∧ Up w w') := Lib.hid fun w hv hy => by
    have := lin_Scale K' y (.slice a' n' cap') l' w hv hK' hv'.2.1 hy HLN'.out
    rw [hsc] at this; exact this
  have HAD : Hid (∀ (w : World) (v1 v2 : Value) (h1 : MonosAt w v1 (restL sl l)) (c1 : CapOk v1) (h2 : MonosAt w v2 ls) (c2 : CapOk v2), Calls Try.prog 24 #[.agg #[.int .i64 K, v1], .agg #[.int .i64 Ks, v2]] w fun e w' => LinErrF w e w' (addF K (restL sl l) Ks ls) ∧ Up w w') := Lib.hid fun w v1 v2 h1 c1 h2 c2 =>
    lin_AddF K Ks v1 v2 (restL sl l) ls w ⟨h1, restL_rng HRG.out.mem, c1⟩ ⟨h2, hfc.2.1, c2⟩ hK hfc.1 (Nat.le_trans (List.length_filter_le _ _) (by omega)) (Nat.le_trans hfc.2.2 HLN'.out)
  have HR : Hid (substF K l s.toList K' l' = if q && qn && q' then (if es ≠ 0 then (0, [], es) else addF K (restL sl l) Ks ls) else (0, [], 1)) := Lib.hid (by unfold substF; rw [hsl, hq, hqn, hq', hy, hsc])
  obtain ⟨r, hr⟩ : ∃ r, substF K l s.toList K' l' = r := ⟨_, rfl⟩
  rw [hr] at HR ⊢
  have HY := Lib.hid hy
  have HSL := Lib.hid hsl
  clear hsl
  clear hv hv' hn hn' hq hqn hq' hr hK hK' hy hsc hfc
  go_enter Try.func31, Try.ntmps31
  go_wp2_with fail
  refine (HVA.out _ (HV.out.up ((((Up.refl w).alloc _).alloc _).alloc _))).mono ?_
  rintro e x1 ⟨rfl, hx1⟩
  have hs := hx1.size
  rw [size_alloc, size_alloc, size_alloc] at hs
  have a0 : x1.cell? ⟨w.heap.size, 0, none⟩ = some (.int .i64 K) := (hx1.cell _ _ (by rw [size_alloc, size_alloc, size_alloc]; omega)).trans (by go_simp)
  have a1 : x1.cell? ⟨w.heap.size, 1, none⟩ = some (.slice a n cap) := (hx1.cell _ _ (by rw [size_alloc, size_alloc, size_alloc]; omega)).trans (by go_simp)
  have b0 : x1.cell? ⟨w.heap.size + 1, 0, none⟩ = some (.int .i64 K') := (hx1.cell _ _ (by rw [size_alloc, size_alloc, size_alloc]; omega)).trans (by go_simp)
  have b1 : x1.cell? ⟨w.heap.size + 1, 1, none⟩ = some (.slice a' n' cap') := (hx1.cell _ _ (by rw [size_alloc, size_alloc, size_alloc]; omega)).trans (by go_simp)
  have c0 : x1.cell? ⟨w.heap.size + 1 + 1, 0, none⟩ = some (.int .i64 0) := (hx1.cell _ _ (by rw [size_alloc, size_alloc, size_alloc]; omega)).trans (by go_simp)
  have c1 : x1.cell? ⟨w.heap.size + 1 + 1, 1, none⟩ = some (.slice none 0 0) := (hx1.cell _ _ (by rw [size_alloc, size_alloc, size_alloc]; omega)).trans (by go_simp)
  have cf : ∀ o, x1.frozen? ⟨w.heap.size + 1 + 1, o, none⟩ = false := fun o => (hx1.frozen _ _ (by rw [size_alloc, size_alloc, size_alloc]; omega)).trans (by go_simp)
  have HU1 := Lib.hid (((((Up.refl w).alloc (.cells #[.int .i64 K, .slice a n cap] 25)).alloc (.cells #[.int .i64 K', .slice a' n' cap'] 25)).alloc (.cells #[.int .i64 0, .slice none 0 0] 25)).trans hx1)
  clear hx1
  have hset : ∀ (x : World) (v : Value) (o : Nat), Up w x → Up w (x.setCell ⟨w.heap.size + 1 + 1, o, none⟩ v) := fun x v o u => u.setCell (by show w.heap.size ≤ w.heap.size + 1 + 1; omega) v
  have HSET := Lib.hid hset
  clear hset
  have q0 : w.heap.size < x1.heap.size := by omega
  have q1 : w.heap.size + 1 < x1.heap.size := by omega
  have q2 : w.heap.size + 1 + 1 < x1.heap.size := by omega
  cases q
  · rw [show errOf false = 1 from rfl]
    have hr2 : r = (0, [], 1) := by rw [HR.out]; rfl
    have HR2 := Lib.hid hr2
    clear hr2
    go_wp2
    refine bodyPost_ret (v := .tuple #[.agg #[.int .i64 0, .slice none 0 0], .int .i64 1]) (by simp [results, Try.results31, go_sem, c0, c1]) rfl ?_
    rw [HR2.out]
    exact ⟨⟨_, rfl, monos_nil _, cap_nil, fresh_nil w⟩, by repeat (first | exact HU1.out | refine HSET.out _ _ _ ?_)⟩
  rw [show errOf true = 0 from rfl]
  go_wp2_with fail
  refine (HVN.out _).mono ?_
  rintro e x2 ⟨rfl, hx2⟩
  replace hx2 := hx2.symm
  subst hx2
  cases qn
  · have hr2 : r = (0, [], 1) := by rw [HR.out]; rfl
    have HR2 := Lib.hid hr2
    clear hr2
    go_wp2
    refine bodyPost_ret (v := .tuple #[.agg #[.int .i64 0, .slice none 0 0], .int .i64 1]) (by simp [results, Try.results31, go_sem, c0, c1]) rfl ?_
    rw [HR2.out]
    exact ⟨⟨_, rfl, monos_nil _, cap_nil, fresh_nil w⟩, by repeat (first | exact HU1.out | refine HSET.out _ _ _ ?_)⟩
  go_wp2_with fail
  refine (HVB.out _ (HV'.out.up HU1.out)).mono ?_
  rintro e x2 ⟨rfl, hx2⟩
  have hs2 := hx2.size
  have a0' := (hx2.cell _ _ q0).trans a0
  have a1' := (hx2.cell _ _ q0).trans a1
  have b0' := (hx2.cell _ _ q1).trans b0
  have b1' := (hx2.cell _ _ q1).trans b1
  have c0' := (hx2.cell _ _ q2).trans c0
  have c1' := (hx2.cell _ _ q2).trans c1
  have cf' := fun o => (hx2.frozen _ _ q2).trans (cf o)
  replace HU1 := Lib.hid (HU1.out.trans hx2)
  have p0 : w.heap.size < x2.heap.size := by omega
  have p1 : w.heap.size + 1 < x2.heap.size := by omega
  have p2 : w.heap.size + 1 + 1 < x2.heap.size := by omega
  clear hx2 a0 a1 b0 b1 c0 c1 cf q0 q1 q2 hs hs2
  cases q'
  · rw [show errOf false = 1 from rfl]
    have hr2 : r = (0, [], 1) := by rw [HR.out]; rfl
    have HR2 := Lib.hid hr2
    clear hr2
    go_wp2
    refine bodyPost_ret (v := .tuple #[.agg #[.int .i64 0, .slice none 0 0], .int .i64 1]) (by simp [results, Try.results31, go_sem, c0', c1']) rfl ?_
    rw [HR2.out]
    exact ⟨⟨_, rfl, monos_nil _, cap_nil, fresh_nil w⟩, by repeat (first | exact HU1.out | refine HSET.out _ _ _ ?_)⟩
  rw [show errOf true = 0 from rfl]
  have HRR : Hid (r = if es ≠ 0 then (0, [], es) else addF K (restL sl l) Ks ls) := Lib.hid (by rw [HR.out]; rfl)
  clear HR
  go_wp2
  obtain ⟨O, hO⟩ : ∃ O, x2.heap.size = O := ⟨_, rfl⟩
  obtain ⟨W3, hW3⟩ : ∃ W, x2.alloc (.cells #[.int .i64 K, .slice none 0 0] 25) = W := ⟨_, rfl⟩
  have hO3 : OutAt W3 (O + 1) O K [] 0 none 0 := by
    refine ⟨rfl, ?_, World.ownsRow_nil _ _ _ _, by omega, ?_⟩
    · rw [← hW3, ← hO]; exact heap_alloc_new x2 _
    · rw [← hW3, size_alloc, hO]; omega
  have HU3 : Hid (Up w W3) := Lib.hid (hW3 ▸ HU1.out.alloc _)
  have u3 : Up x2 W3 := hW3 ▸ (Up.refl x2).alloc _
  have e0 := (u3.cell _ 0 p1).trans b0'
  have e1 := (u3.cell _ 1 p1).trans b1'
  have e2 := (u3.cell _ 0 p2).trans c0'
  have e3 := (u3.cell _ 1 p2).trans c1'
  have ef := fun o => (u3.frozen _ o p2).trans (cf' o)
  have hs3 : W3.heap.size = O + 1 := by rw [← hW3, size_alloc, hO]
  rw [hO] at p0 p1 p2
  rw [hW3]
  try rw [hO]
  have HO3 := Lib.hid hO3
  have HE0 := Lib.hid e0
  have HE1 := Lib.hid e1
  have HE2 := Lib.hid e2
  have HE3 := Lib.hid e3
  have HEF := Lib.hid ef
  clear hO hW3 a0' a1' b0' b1' c0' c1' cf' hO3 e0 e1 e2 e3 ef HU1 u3 HVA HVB HVN
  go_loopw [9, 34] (fun b i wr => ∃ (k m : Nat) (va : Option Addr) (vc : Nat) (yk : Int), k ≤ n ∧ m ≤ k ∧ i = .int .i64 k ∧ b = .int .i64 yk ∧ In64 yk ∧ byF sl (l.drop k) yk = y ∧ OutAt wr (O + 1) O K (restL sl (l.take k)) m va vc ∧ UpRow (O + 1) O W3 wr) (fun _ i _ => n - (intOf i).toNat)
  case atStart => exact ⟨0, 0, none, 0, 0, by omega, by omega, rfl, rfl, ⟨by decide, by decide⟩, by rw [List.drop_zero]; exact HY.out, HO3.out, UpRow.refl _ _ _⟩
  case round =>
    rename_i wr
    obtain ⟨k, m, va, vc, yk, hk, hmk, rfl, rfl, hyk, hby, hOut, hRow⟩ := hrel
    have hU := UpRow.up HU3.out (by omega : w.heap.size ≤ O) (by omega) hRow
    obtain ⟨o0, o1, of, ol⟩ := hOut.cells
    have HOut := Lib.hid hOut
    have HRow := Lib.hid hRow
    have HYK := Lib.hid hyk
    have HBY := Lib.hid hby
    clear hOut hRow hyk hby
    by_cases hlt : k < n
    · have hlt2 : (k : Int) < (n : Int) := by omega
      have hk0 : (0 : Int) ≤ (k : Int) := by omega
      obtain ⟨bl, off, s', b, rfl, z1, z2, z3, z4⟩ := HV.out.elem hU k (by rw [HN.out]; exact hlt) HN.out rfl
      have hrb : In64 b := by
        have := HRG.out k (by rw [HN.out]; exact hlt)
        rw [z2] at this; exact this
      have htk := take_snoc (by rw [HN.out]; exact hlt) z2
      have hdr := drop_mono (by rw [HN.out]; exact hlt) z2
      have HIB := Lib.hid hrb
      have q5 : bl < wr.heap.size := by have := hU.size; omega
      have q6 : O < wr.heap.size := ol
      have hUa : Up wr (wr.alloc (.cells #[.string s', .int .i64 b] 59)) := (Up.refl wr).alloc _
      have hOa := HOut.out.up hUa
      have HOA := Lib.hid hOa
      have HKEY := Lib.hid (hOa.key s' b)
      have HRA := Lib.hid (HRow.out.trans (hUa.row (by omega : O + 1 ≤ wr.heap.size)))
      have hms := mono_sl (wr.alloc (.cells #[.string s', .int .i64 b] 59)) s' b
      rw [size_alloc] at hms
      have HMS := Lib.hid hms
      have hsz9 : O + 1 ≤ wr.heap.size := by omega
      have hmI : (m : Int) ≤ 1000 := by omega
      have HBY2 : Hid (byF sl (l.drop (k + 1)) (if s'.toList == sl then b else yk) = y) := Lib.hid (by rw [← HBY.out, hdr]; rfl)
      have HO2 : Hid (restL sl (l.take (k + 1)) = restL sl (l.take k) ++ (if s'.toList == sl then [] else [(s', b)])) := Lib.hid (by rw [htk, restL_snoc])
      have HMK := Lib.hid hmk
      clear z2 htk hdr hUa hOa hms hrb HBY
      cases hc : (s'.toList == sl)
      · have hc2 : ¬ s'.toList = sl := by simpa using hc
        rw [hc] at HBY2 HO2
        have hc3 : (s'.toList == s.toList) = false := by rw [HSL.out]; exact hc
        have hc4 : ¬ s'.toList = s.toList := by rw [HSL.out]; exact hc2
        clear hc hc2
        go_wp2_with (at_builtin; refine wpList_append_sl _ rfl _ _ 23 rfl (O + 1) 59 i0 _ 2 24 Try.underlying23 hi0 hz0 hz1 hz2 rfl (by decide) (.slice va m vc) m _ rfl (HOA.out.2.2.1.alloc _) (.slice (some ⟨wr.heap.size + 1, 0, none⟩) 1 1) 1 _ rfl HMS.out (mono_one s' b) (by unfold maxLen; omega) (by omega) (by rw [size_alloc, size_alloc]; omega) ?_; intro v1 w1 hown1 hg1 hat1 hnil1; obtain ⟨vb, vd, rfl⟩ := own_slice hown1; obtain ⟨d2, d3, HD2, HD3, HD4⟩ := HKEY.out w1 hg1; have HO1 := Lib.hid hown1; clear hown1 hg1 hat1 hnil1)
        obtain ⟨hf1, hf2⟩ := HOA.out.done s' b HD2.out HD3.out HD4.out vb vd HO1.out
        go_roundw
        case rel => exact ⟨k + 1, m + 1, vb, vd, yk, by omega, by have := HMK.out; omega, by go_num, rfl, HYK.out, HBY2.out, by rw [HO2.out]; exact hf1, HRA.out.trans hf2⟩
        case measure => simp [intOf]; omega
      · have hc2 : s'.toList = sl := by simpa using hc
        rw [hc] at HBY2 HO2
        have hc3 : (s'.toList == s.toList) = true := by rw [HSL.out]; exact hc
        have hc4 : s'.toList = s.toList := by rw [HSL.out]; exact hc2
        clear hc hc2
        go_wp2
        go_roundw
        case rel => exact ⟨k + 1, m, va, vc, b, by omega, by have := HMK.out; omega, by go_num, rfl, HIB.out, HBY2.out, by rw [HO2.out]; simp only [if_true, List.append_nil]; exact HOA.out, HRA.out⟩
        case measure => simp [intOf]; omega
    · have hlt2 : (n : Int) ≤ (k : Int) := by omega
      have hta : l.take k = l := List.take_of_length_le (by rw [HN.out]; omega)
      have hyy : yk = y := by
        have := HBY.out
        rw [List.drop_eq_nil_of_le (by rw [HN.out]; omega)] at this
        exact this
      have hoo := HOut.out
      rw [hta] at hoo
      have HOO := Lib.hid hoo
      have g0 := (HRow.out.cell (w.heap.size + 1) 0 (by omega) (by omega)).trans HE0.out
      have g1 := (HRow.out.cell (w.heap.size + 1) 1 (by omega) (by omega)).trans HE1.out
      have g2 := (HRow.out.cell (w.heap.size + 1 + 1) 0 (by omega) (by omega)).trans HE2.out
      have g3 := (HRow.out.cell (w.heap.size + 1 + 1) 1 (by omega) (by omega)).trans HE3.out
      have gf : ∀ o, wr.frozen? ⟨w.heap.size + 1 + 1, o, none⟩ = false := fun o => by
        have h1 := HRow.out.block (w.heap.size + 1 + 1) (by omega) (by omega)
        have h2 := HEF.out o
        unfold World.frozen? at h2 ⊢
        rw [h1]; exact h2
      have p3 : w.heap.size + 1 < wr.heap.size := by omega
      have p4 : w.heap.size + 1 + 1 < wr.heap.size := by omega
      have HUW := Lib.hid hU
      have hms := hoo.monos (by omega)
      have HMS := Lib.hid hms
      have HCP := Lib.hid (own_cap hoo.2.2.1)
      clear hta hoo HOut HBY hU hms
      subst hyy
      go_wp2_with fail
      refine (HSC.out _ (HV'.out.up HUW.out) HYK.out).mono ?_
      rintro e x5 ⟨⟨v5, rfl, hm5, hc5⟩, hx5⟩
      dsimp only at hm5
      have h5s := hx5.size
      have o0' := (hx5.cell _ _ ol).trans o0
      have o1' := (hx5.cell _ _ ol).trans o1
      have g2' := (hx5.cell _ _ p4).trans g2
      have g3' := (hx5.cell _ _ p4).trans g3
      have gf' := fun o => (hx5.frozen _ _ p4).trans (gf o)
      replace HUW := Lib.hid (HUW.out.trans hx5)
      replace HMS := Lib.hid (HMS.out.up hx5)
      obtain ⟨a5, cap5, rfl⟩ := hm5.slice
      obtain ⟨n5, hn5⟩ : ∃ n, ls.length = n := ⟨_, rfl⟩
      rw [hn5] at hm5 hc5 ⊢
      have HM5 := Lib.hid hm5
      have HC5 := Lib.hid hc5
      have r1 : O < x5.heap.size := by omega
      have r2 : w.heap.size + 1 + 1 < x5.heap.size := by omega
      clear hx5 o0 o1 g0 g1 g2 g3 gf of hm5 hc5 hn5 h5s p3 p4
      by_cases hes : es = 0
      · subst hes
        have HRQ : Hid (r = addF K (restL sl l) Ks ls) := Lib.hid (by rw [HRR.out]; simp)
        clear HRR
        go_wp2_with fail
        refine (HAD.out _ _ _ (HMS.out.up ((Up.refl x5).alloc _)) HCP.out (HM5.out.up ((Up.refl x5).alloc _)) HC5.out).mono ?_
        rintro e x6 ⟨⟨v6, rfl, hm6, hc6, hf6⟩, hx6⟩
        have h6s := hx6.size
        rw [size_alloc] at h6s
        have k2 : x6.cell? ⟨w.heap.size + 1 + 1, 0, none⟩ = some (.int .i64 0) := (hx6.cell _ _ (by rw [size_alloc]; omega)).trans ((((Up.refl x5).alloc _).cell _ _ r2).trans g2')
        have k3 : x6.cell? ⟨w.heap.size + 1 + 1, 1, none⟩ = some (.slice none 0 0) := (hx6.cell _ _ (by rw [size_alloc]; omega)).trans ((((Up.refl x5).alloc _).cell _ _ r2).trans g3')
        have kf : ∀ o, x6.frozen? ⟨w.heap.size + 1 + 1, o, none⟩ = false := fun o => (hx6.frozen _ _ (by rw [size_alloc]; omega)).trans ((((Up.refl x5).alloc (.cells #[.int .i64 Ks, .slice a5 n5 cap5] 25)).frozen _ _ r2).trans (gf' o))
        have HU6 := Lib.hid ((HUW.out.alloc _).trans hx6)
        rw [← HRQ.out] at hm6 ⊢
        obtain ⟨rK, rl, re⟩ := r
        dsimp only at hm6 ⊢
        have hff : ∀ a n c, v6 = .slice (some a) n c → a.block ≠ w.heap.size + 1 + 1 := fun a n c hv => by
          have := hf6 a n c hv
          rw [size_alloc] at this
          omega
        have HFF := Lib.hid hff
        have HFR : Hid (FreshV w v6) := Lib.hid (fun a n c hv => by
          have := hf6 a n c hv
          rw [size_alloc] at this
          omega)
        have HM6 := Lib.hid hm6
        have HC6 := Lib.hid hc6
        clear hx6 hf6 hff g2' g3' gf' o0' o1'
        obtain ⟨a6, cap6, rfl⟩ := hm6.slice
        clear hm6 hc6
        go_wp2
        refine bodyPost_ret (v := .tuple #[.agg #[.int .i64 rK, .slice a6 rl.length cap6], .int .i64 re]) (by simp [results, Try.results31, go_sem, k2, k3]) rfl ?_
        refine ⟨⟨_, rfl, ?_, HC6.out, HFR.out⟩, by repeat (first | exact HU6.out | refine HSET.out _ _ _ ?_)⟩
        show SlAt _ _ rl.length 2 _
        repeat (first | exact HM6.out | refine SlAt.far ?_ HFF.out _ _)
      · have he1 : (es == 0) = false := by simpa using hes
        have HRQ : Hid (r = (0, [], es)) := Lib.hid (by rw [HRR.out, if_pos hes])
        clear HRR
        go_wp2
        obtain ⟨x', hx'⟩ : ∃ x', (x5.setCell ⟨w.heap.size + 1 + 1, 0, none⟩ (.int .i64 0)).setCell ⟨w.heap.size + 1 + 1, 1, none⟩ (.slice none 0 0) = x' := ⟨_, rfl⟩
        have k0 : x'.cell? ⟨w.heap.size + 1 + 1, 0, none⟩ = some (.int .i64 0) := by rw [← hx']; clear hx'; go_simp
        have k1 : x'.cell? ⟨w.heap.size + 1 + 1, 1, none⟩ = some (.slice none 0 0) := by rw [← hx']; clear k0 hx'; go_simp
        have HX : Up w x' := by
          rw [← hx']
          repeat (first | exact HUW.out | refine HSET.out _ _ _ ?_)
        have kq : w.heap.size + 1 + 1 < x'.heap.size := by rw [← hx', set_size, set_size]; exact r2
        rw [hx']
        clear hx'
        refine bodyPost_ret (v := .tuple #[.agg #[.int .i64 0, .slice none 0 0], .int .i64 es]) (by simp [results, Try.results31, go_sem, World.cell?_alloc_lt, kq, k0, k1]) rfl ?_
        rw [HRQ.out]
        exact ⟨⟨_, rfl, monos_nil _, cap_nil, fresh_nil w⟩, HX.alloc _⟩
end Go.Proofs.Ytpclbgaaoednnaa
