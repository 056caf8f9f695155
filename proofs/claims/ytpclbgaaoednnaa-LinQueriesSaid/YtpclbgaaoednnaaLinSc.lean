/-
  Scale of the program's side.
-/
import Derived.Test.YtpclbgaaoednnaaLinA
namespace Go.Proofs.Ytpclbgaaoednnaa
open Go.ChangeShapes Go.WideShapes Go.ChangeAt Go.RowKit
set_option linter.unusedVariables false

def outL (y : Int) (l : List Mono) : List Mono := l.map fun m => (m.1, (mulR m.2 y).1)
def allFit (y : Int) (l : List Mono) : Bool := l.all fun m => fitB (m.2 * y)
def scaleF (K : Int) (l : List Mono) (y : Int) : Int × List Mono × Int :=
  if okL l then (if y = 0 then (0, [], 0) else if fitB (K * y) && allFit y l then (K * y, outL y l, 0) else (0, [], 3)) else (0, [], 1)

theorem cap_nil : CapOk (.slice none 0 0) := ⟨_, _, _, rfl, Nat.le_refl _⟩
theorem own_cap {w : World} {base n k : Nat} {e : TypeId} {v : Value} {xs : List Value} (h : w.ownsRow base e k v n xs) : CapOk v := by
  rcases h.2 with ⟨rfl, rfl⟩ | ⟨g, cap, cur, rfl, _, _, hnc, _⟩
  · exact cap_nil
  · exact ⟨_, _, _, rfl, hnc⟩
theorem take_snoc {l : List Mono} {k : Nat} (hk : k < l.length) {m : Mono} (h : l.getD k m0 = m) : l.take (k + 1) = l.take k ++ [m] := by
  have e : l[k]? = some m := by
    rw [List.getElem?_eq_getElem hk]
    rw [List.getD_eq_getElem?_getD, List.getElem?_eq_getElem hk] at h
    exact congrArg some h
  rw [List.take_add_one, e]; rfl
theorem outL_snoc (y : Int) (l : List Mono) (m : Mono) : outL y (l ++ [m]) = outL y l ++ [(m.1, (mulR m.2 y).1)] := by simp [outL]
theorem allFit_snoc (y : Int) (l : List Mono) (m : Mono) : allFit y (l ++ [m]) = (allFit y l && fitB (m.2 * y)) := by simp [allFit]
theorem mulR_snd (a b : Int) : (mulR a b).2 = fitB (a * b) := by
  unfold mulR; cases h : fitB (a * b) <;> simp

/-- A form and an error, as results. -/
def LinErr (e : Ending) (w' : World) (r : Int × List Mono × Int) : Prop := ∃ v, e = .returned (.tuple #[.agg #[.int .i64 r.1, v], .int .i64 r.2.2]) ∧ MonosAt w' v r.2.1 ∧ CapOk v

set_option maxHeartbeats 4000000 in
set_option maxRecDepth 100000 in
theorem lin_Scale (K y : Int) (v : Value) (l : List Mono) (w : World) (hv : MonosAt w v l) (hK : In64 K) (hl : Rng l) (hy : In64 y) (hlen : l.length ≤ 1000) :
    Calls Try.prog 22 #[.agg #[.int .i64 K, v], .int .i64 y] w fun e w' => LinErr e w' (scaleF K l y) ∧ Up w w' := by
  obtain ⟨i0, hi0, hz0, hz1, hz2⟩ := info_parts mono_info
  obtain ⟨a, cap, rfl⟩ := hv.slice
  obtain ⟨n, hn⟩ : ∃ n, l.length = n := ⟨_, rfl⟩
  rw [hn] at hv hlen ⊢
  have hnI : (n : Int) ≤ 1000 := by omega
  have HV := Lib.hid hv
  have HN := Lib.hid hn
  have HL := Lib.hid hl
  have HY := Lib.hid hy
  obtain ⟨q, hq⟩ : ∃ q, okL l = q := ⟨_, rfl⟩
  have HVA : Hid (∀ (K : Int) (w : World) (hv : MonosAt w (.slice a n cap) l), Calls Try.prog 44 #[.agg #[.int .i64 K, .slice a n cap]] w fun e w' => e = .returned (.int .i64 (errOf q)) ∧ Up w w') := Lib.hid fun K w hv => by
    have := lin_Validate K (.slice a n cap) l w hv
    rw [hq] at this
    exact this
  have HR : Hid (scaleF K l y = if q then (if y = 0 then (0, [], 0) else if fitB (K * y) && allFit y l then (K * y, outL y l, 0) else (0, [], 3)) else (0, [], 1)) := Lib.hid (by unfold scaleF; rw [hq])
  obtain ⟨r, hr⟩ : ∃ r, scaleF K l y = r := ⟨_, rfl⟩
  rw [hr] at HR ⊢
  obtain ⟨fK, hfK⟩ : ∃ f, fitB (K * y) = f := ⟨_, rfl⟩
  rw [hfK] at HR
  obtain ⟨Ko, hKo⟩ : ∃ x, (mulR K y).1 = x := ⟨_, rfl⟩
  have HTK : Hid (∀ w, Calls Try.prog 56 #[.int .i64 K, .int .i64 y] w fun e w' => e = .returned (.tuple #[.int .i64 Ko, .bool fK]) ∧ w' = w) := Lib.hid fun w => by
    have := lin_times K y hK hy w
    rw [mulR_snd, hfK, hKo] at this
    exact this
  have HKO : Hid (fK = true → Ko = K * y) := Lib.hid fun h => by rw [← hKo]; unfold mulR; rw [hfK, h]; rfl
  clear hv hn hl hq hr hfK hKo hK hy
  go_enter Try.func22, Try.ntmps22
  go_wp2_with fail
  refine (HVA.out _ _ (HV.out.up (((Up.refl w).alloc _).alloc _))).mono ?_
  rintro e x1 ⟨rfl, hx1⟩
  have hs := hx1.size
  rw [size_alloc, size_alloc] at hs
  have b0 : x1.cell? ⟨w.heap.size, 0, none⟩ = some (.int .i64 K) := (hx1.cell _ _ (by rw [size_alloc, size_alloc]; omega)).trans (by go_simp)
  have b1 : x1.cell? ⟨w.heap.size, 1, none⟩ = some (.slice a n cap) := (hx1.cell _ _ (by rw [size_alloc, size_alloc]; omega)).trans (by go_simp)
  have c0 : x1.cell? ⟨w.heap.size + 1, 0, none⟩ = some (.int .i64 0) := (hx1.cell _ _ (by rw [size_alloc, size_alloc]; omega)).trans (by go_simp)
  have c1 : x1.cell? ⟨w.heap.size + 1, 1, none⟩ = some (.slice none 0 0) := (hx1.cell _ _ (by rw [size_alloc, size_alloc]; omega)).trans (by go_simp)
  have cf : ∀ o, x1.frozen? ⟨w.heap.size + 1, o, none⟩ = false := fun o => (hx1.frozen _ _ (by rw [size_alloc, size_alloc]; omega)).trans (by go_simp)
  have HU1 := Lib.hid ((((Up.refl w).alloc (.cells #[.int .i64 K, .slice a n cap] 25)).alloc (.cells #[.int .i64 0, .slice none 0 0] 25)).trans hx1)
  clear hx1
  have q0 : w.heap.size < x1.heap.size := by omega
  have q1 : w.heap.size + 1 < x1.heap.size := by omega
  have hset : ∀ (x : World) (v : Value) (o : Nat), Up w x → Up w (x.setCell ⟨w.heap.size + 1, o, none⟩ v) := fun x v o u => u.setCell (by show w.heap.size ≤ w.heap.size + 1; omega) v
  have HSET := Lib.hid hset
  clear hset
  cases q
  · rw [show errOf false = 1 from rfl]
    go_wp2
    refine bodyPost_ret (v := .tuple #[.agg #[.int .i64 0, .slice none 0 0], .int .i64 1]) (by simp [results, Try.results22, go_sem, c0, c1]) rfl ?_
    rw [HR.out]
    exact ⟨⟨_, rfl, monos_nil _, cap_nil⟩, by repeat (first | exact HU1.out | refine HSET.out _ _ _ ?_)⟩
  rw [show errOf true = 0 from rfl]
  by_cases hy0 : y = 0
  · subst hy0
    go_wp2
    refine bodyPost_ret (v := .tuple #[.agg #[.int .i64 0, .slice none 0 0], .int .i64 0]) (by simp [results, Try.results22, go_sem, c0, c1]) rfl ?_
    rw [HR.out]
    exact ⟨⟨_, rfl, monos_nil _, cap_nil⟩, by repeat (first | exact HU1.out | refine HSET.out _ _ _ ?_)⟩
  have hy1 : (y == 0) = false := by simpa using hy0
  have HRR : Hid (r = if fK && allFit y l then (K * y, outL y l, 0) else (0, [], 3)) := Lib.hid (by
    rw [HR.out, if_pos (by rfl), if_neg hy0])
  clear HR
  go_wp2_with fail
  refine (HTK.out _).mono ?_
  rintro e x2 ⟨rfl, hx2⟩
  replace hx2 := hx2.symm
  subst hx2
  go_wp2
  obtain ⟨O, hO⟩ : ∃ O, x1.heap.size = O := ⟨_, rfl⟩
  obtain ⟨W3, hW3⟩ : ∃ W, x1.alloc (.cells #[.int .i64 Ko, .slice none 0 0] 25) = W := ⟨_, rfl⟩
  have hO3 : OutAt W3 (O + 1) O Ko [] 0 none 0 := by
    refine ⟨rfl, ?_, World.ownsRow_nil _ _ _ _, by omega, ?_⟩
    · rw [← hW3, ← hO]; exact heap_alloc_new x1 _
    · rw [← hW3, size_alloc, hO]; omega
  have HU3 : Hid (Up w W3) := Lib.hid (hW3 ▸ HU1.out.alloc _)
  have e0 : W3.cell? ⟨w.heap.size + 1, 0, none⟩ = some (.int .i64 0) := by
    rw [← hW3]; exact ((((Up.refl x1).alloc _).cell _ _ q1).trans c0)
  have e1 : W3.cell? ⟨w.heap.size + 1, 1, none⟩ = some (.slice none 0 0) := by
    rw [← hW3]; exact ((((Up.refl x1).alloc _).cell _ _ q1).trans c1)
  have ef : ∀ o, W3.frozen? ⟨w.heap.size + 1, o, none⟩ = false := fun o => by
    rw [← hW3]; exact ((((Up.refl x1).alloc _).frozen _ _ q1).trans (cf o))
  have hs3 : W3.heap.size = O + 1 := by rw [← hW3, size_alloc, hO]
  rw [hO] at q0 q1 hs
  rw [hW3]
  try rw [hO]
  have HO3 := Lib.hid hO3
  have HE0 := Lib.hid e0
  have HE1 := Lib.hid e1
  have HEF := Lib.hid ef
  clear hO hW3 b0 b1 c0 c1 cf hO3 e0 e1 ef HU1 HTK
  go_loopw [7, 32] (fun f i wr => ∃ (k : Nat) (va : Option Addr) (vc : Nat), k ≤ n ∧ i = .int .i64 k ∧ f = .bool (fK && allFit y (l.take k)) ∧ OutAt wr (O + 1) O Ko (outL y (l.take k)) k va vc ∧ UpRow (O + 1) O W3 wr) (fun _ i _ => n - (intOf i).toNat)
  case atStart => exact ⟨0, none, 0, by omega, rfl, by simp [allFit], HO3.out, UpRow.refl _ _ _⟩
  case round =>
    rename_i wr
    obtain ⟨k, va, vc, hk, rfl, rfl, hOut, hRow⟩ := hrel
    have hU := UpRow.up HU3.out (by omega : w.heap.size ≤ O) (by omega) hRow
    obtain ⟨o0, o1, of, ol⟩ := hOut.cells
    have HOut := Lib.hid hOut
    have HRow := Lib.hid hRow
    obtain ⟨fk, hfk⟩ : ∃ f, (fK && allFit y (l.take k)) = f := ⟨_, rfl⟩
    rw [hfk]
    have HFK := Lib.hid hfk
    clear hOut hRow hfk
    by_cases hlt : k < n
    · have hlt2 : (k : Int) < (n : Int) := by omega
      have hk0 : (0 : Int) ≤ (k : Int) := by omega
      obtain ⟨bl, off, s, b, rfl, p1, p2, p3, p4⟩ := HV.out.elem hU k (by rw [HN.out]; exact hlt) HN.out rfl
      have hrb : In64 b := by
        have := HL.out k (by rw [HN.out]; exact hlt)
        rw [p2] at this; exact this
      have htk := take_snoc (by rw [HN.out]; exact hlt) p2
      have HT := Lib.hid htk
      obtain ⟨c, hc⟩ : ∃ c, (mulR b y).1 = c := ⟨_, rfl⟩
      obtain ⟨g, hg⟩ : ∃ g, fitB (b * y) = g := ⟨_, rfl⟩
      have HTB : Hid (∀ w, Calls Try.prog 56 #[.int .i64 b, .int .i64 y] w fun e w' => e = .returned (.tuple #[.int .i64 c, .bool g]) ∧ w' = w) := Lib.hid fun w => by
        have := lin_times b y hrb HY.out w
        rw [mulR_snd, hg, hc] at this
        exact this
      have HF2 : Hid ((fK && allFit y (l.take (k + 1))) = (fk && g)) := Lib.hid (by
        rw [HT.out, allFit_snoc, ← Bool.and_assoc, HFK.out, hg])
      have HO2 : Hid (outL y (l.take (k + 1)) = outL y (l.take k) ++ [(s, c)]) := Lib.hid (by
        rw [HT.out, outL_snoc, hc])
      obtain ⟨b0, b1⟩ := hrb
      clear p2 htk hc hg HFK HT
      have q5 : bl < wr.heap.size := by have := hU.size; omega
      have q6 : O < wr.heap.size := ol
      obtain ⟨wa, hwa⟩ : ∃ wa, wr.alloc (.cells #[.string s, .int .i64 b] 59) = wa := ⟨_, rfl⟩
      have hUa : Up wr wa := hwa ▸ (Up.refl wr).alloc _
      have hOa := HOut.out.up hUa
      obtain ⟨a0, a1, af, al⟩ := hOa.cells
      have hsa : wa.heap.size = wr.heap.size + 1 := by rw [← hwa, size_alloc]
      have d0 : wa.cell? ⟨wr.heap.size, 0, none⟩ = some (.string s) := by rw [← hwa]; exact cell_of_row _ _ _ _ _ _ (heap_alloc_new wr _)
      have d1 : wa.cell? ⟨wr.heap.size, 1, none⟩ = some (.int .i64 b) := by rw [← hwa]; exact cell_of_row _ _ _ _ _ _ (heap_alloc_new wr _)
      have HWA := Lib.hid hwa
      have HOA := Lib.hid hOa
      have HKEY := Lib.hid (hOa.key s c)
      have HRA := Lib.hid (HRow.out.trans (hUa.row (by omega : O + 1 ≤ wr.heap.size)))
      have q7 : wr.heap.size < wa.heap.size := by omega
      have q8 : wr.heap.size < wa.heap.size + 1 := by omega
      have hkm : (k : Int) ≤ 1000 := by omega
      clear hwa hUa hOa o0 o1 of hsa
      go_wp2_with fail
      rw [HWA.out]
      refine (HTB.out _).mono ?_
      rintro e x2 ⟨rfl, hx2⟩
      replace hx2 := hx2.symm
      subst hx2
      cases fk
      all_goals
        go_wp2_with (at_builtin; refine wpList_append_sl _ rfl _ _ 23 rfl (O + 1) 59 i0 _ 2 24 Try.underlying23 hi0 hz0 hz1 hz2 rfl (by decide) (.slice va k vc) k _ rfl (HOA.out.2.2.1.alloc _) (.slice (some ⟨wa.heap.size, 0, none⟩) 1 1) 1 _ rfl (mono_sl wa s c) (mono_one s c) (by unfold maxLen; omega) (by omega) (by have := HOA.out.2.2.2.2; simp; omega) ?_; intro v1 w1 hown1 hg1 hat1 hnil1; obtain ⟨vb, vd, rfl⟩ := own_slice hown1; obtain ⟨d2, d3, HD2, HD3, HD4⟩ := HKEY.out w1 hg1; have HO1 := Lib.hid hown1; clear hown1 hg1 hat1 hnil1)
        obtain ⟨hf1, hf2⟩ := HOA.out.done s c HD2.out HD3.out HD4.out vb vd HO1.out
        go_roundw
        case rel => exact ⟨k + 1, vb, vd, by omega, by go_num, by rw [HF2.out]; rfl, by rw [HO2.out]; exact hf1, HRA.out.trans hf2⟩
        case measure => simp [intOf]; omega
    · have hlt2 : (n : Int) ≤ (k : Int) := by omega
      have hkn : k = n := by omega
      subst hkn
      have hta : l.take k = l := List.take_of_length_le (by rw [HN.out]; omega)
      have c0 : wr.cell? ⟨w.heap.size + 1, 0, none⟩ = some (.int .i64 0) := (HRow.out.cell _ _ (by omega) (by omega)).trans HE0.out
      have c1 : wr.cell? ⟨w.heap.size + 1, 1, none⟩ = some (.slice none 0 0) := (HRow.out.cell _ _ (by omega) (by omega)).trans HE1.out
      have cf : ∀ o, wr.frozen? ⟨w.heap.size + 1, o, none⟩ = false := fun o => by
        have h1 := HRow.out.block (w.heap.size + 1) (by omega) (by omega)
        have h2 := HEF.out o
        unfold World.frozen? at h2 ⊢
        rw [h1]; exact h2
      have HUW := Lib.hid hU
      have HRE : Hid (r = if fk then (K * y, outL y l, 0) else (0, [], 3)) := Lib.hid (by
        rw [HRR.out, ← HFK.out, hta])
      have HFKT : Hid (fk = true → fK = true) := Lib.hid (fun h => by
        have := HFK.out
        rw [h] at this
        exact (Bool.and_eq_true_iff.1 this).1)
      clear hU HFK HRR
      cases fk
      · go_wp2
        refine bodyPost_ret (v := .tuple #[.agg #[.int .i64 0, .slice none 0 0], .int .i64 3]) (by simp [results, Try.results22, go_sem, c0, c1]) rfl ?_
        rw [HRE.out]
        exact ⟨⟨_, rfl, monos_nil _, cap_nil⟩, by repeat (first | exact HUW.out | refine HSET.out _ _ _ ?_)⟩
      · go_wp2
        refine bodyPost_ret (v := .tuple #[.agg #[.int .i64 Ko, .slice va k vc], .int .i64 0]) (by simp [results, Try.results22, go_sem, c0, c1]) rfl ?_
        have hr2 : r = (K * y, outL y l, 0) := by rw [HRE.out]; simp
        rw [hr2]
        refine ⟨⟨.slice va k vc, ?_, ?_, own_cap HOut.out.2.2.1⟩, by repeat (first | exact HUW.out | refine HSET.out _ _ _ ?_)⟩
        · rw [HKO.out (HFKT.out (by trivial))]
        · have hoo := HOut.out
          rw [hta] at hoo
          have hle : k = (outL y l).length := hoo.1
          show SlAt _ _ (outL y l).length 2 _
          rw [← hle]
          refine SlAt.of_own (base := O + 1) (e := 59) (xs := monoCells (outL y l)) ?_ (by omega) (fun i j hi hj => monoCells_get _ i j (by omega) hj)
          repeat (first | exact hoo.2.2.1 | refine ownsRow_setCell_below ?_ (by show w.heap.size + 1 < O + 1; omega) _)
end Go.Proofs.Ytpclbgaaoednnaa
