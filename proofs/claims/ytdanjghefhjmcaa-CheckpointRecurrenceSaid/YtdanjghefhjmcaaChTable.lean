/-
  The table of costs (chapter 28, the reference's side).
-/
import Derived.Test.YtdanjghefhjmcaaChRec
import Derived.Test.YtdanjghefhjmcaaChRefCost
import Derived.Test.YtdanjghefhjmcaaChRefPlan
namespace Go.Proofs.Ytdanjghefhjmcaa
open Go.ChangeShapes Go.WideShapes Go.ChangeAt Go.RowKit
set_option linter.unusedVariables false
set_option linter.unusedSimpArgs false

theorem own_up {w w' : World} {base k n : Nat} {e : TypeId} {v : Value} {xs : List Value} (h : w.ownsRow base e k v n xs) (u : Up w w') : w'.ownsRow base e k v n xs := by
  refine ⟨h.1, ?_⟩
  rcases h.2 with hn | ⟨g, cap, cur, rfl, hb, hgg, rest⟩
  · exact .inl hn
  · refine .inr ⟨g, cap, cur, rfl, hb, ?_, rest⟩
    rw [u.heap g (Array.getElem?_eq_some_iff.1 hgg).1]
    exact hgg
theorem own_base {w : World} {base base' k n : Nat} {e : TypeId} {v : Value} {xs : List Value} (h : w.ownsRow base e k v n xs) (hb : base' ≤ base) : w.ownsRow base' e k v n xs := by
  refine ⟨h.1, ?_⟩
  rcases h.2 with hn | ⟨g, cap, cur, rfl, hb2, rest⟩
  · exact .inl hn
  · exact .inr ⟨g, cap, cur, rfl, by omega, rest⟩
/-- Rows of different element types lie apart. -/
theorem own_apart {w : World} {b1 b2 k1 k2 n1 n2 : Nat} {e1 e2 : TypeId} {v1 v2 : Value} {xs1 xs2 : List Value} (h1 : w.ownsRow b1 e1 k1 v1 n1 xs1) (h2 : w.ownsRow b2 e2 k2 v2 n2 xs2) (hne : e1 ≠ e2) : v1.ownBlock = none ∨ v1.ownBlock ≠ v2.ownBlock := by
  rcases h1.2 with ⟨rfl, _⟩ | ⟨g, cap, cur, rfl, hb, hg, _⟩
  · left; rfl
  · right
    rcases h2.2 with ⟨rfl, _⟩ | ⟨g', cap', cur', rfl, hb', hg', _⟩
    · simp [Value.ownBlock]
    · intro he
      simp [Value.ownBlock] at he
      subst he
      rw [hg] at hg'
      injection hg' with hg'
      injection hg' with _ ht
      exact hne ht

def costRow (i n : Nat) : List Value := (List.range n).map fun m => .int .i64 (costF m i)
theorem costRow_get (i n m : Nat) (hm : m < n) : (costRow i n)[m]? = some (.int .i64 (costF m i)) := by
  unfold costRow; rw [List.getElem?_map, List.getElem?_range hm]; rfl
theorem costRow_succ (i n : Nat) : costRow i (n + 1) = costRow i n ++ [.int .i64 (costF n i)] := by
  unfold costRow; rw [List.range_succ, List.map_append]; rfl
theorem ints_info : (Try.prog.info? 27).map (fun i => (i.zero, i.size, i.bytes)) = some (some (.slice none 0 0), 1, 24) := by kernel_rfl

/-- What the table's rows are behind i rows. -/
def TabAt (w wr : World) (n i : Nat) (outv : Value) (rv : Nat → Value) : Prop :=
  wr.ownsRow w.heap.size 27 1 outv i ((List.range i).map rv) ∧ (∀ q, q < i → wr.ownsRow w.heap.size 3 1 (rv q) (n + 1) (costRow q (n + 1))) ∧ Up w wr

theorem TabAt.up {w wr w2 : World} {n i : Nat} {outv : Value} {rv : Nat → Value} (h : TabAt w wr n i outv rv) (u : Up wr w2) : TabAt w w2 n i outv rv :=
  ⟨own_up h.1 u, fun q hq => own_up (h.2.1 q hq) u, h.2.2.trans u⟩

set_option maxHeartbeats 8000000 in
set_option maxRecDepth 100000 in
theorem r28_Table (n s : Nat) (hn : n ≤ 64) (hs : s ≤ 64) (w : World) :
    Calls Try.prog 14 #[.int .i64 n, .int .i64 s] w fun e w' => ∃ outv rv, e = .returned outv ∧ TabAt w w' n (s + 1) outv rv := by
  obtain ⟨i0, hi0, hz0, hz1, hz2⟩ := info_parts int_info
  obtain ⟨i1, hi1, hy0, hy1, hy2⟩ := info_parts ints_info
  have hn2 : (n : Int) ≤ 64 := by omega
  have hs2 : (s : Int) ≤ 64 := by omega
  go_enter Try.func14, Try.ntmps14
  go_wp2
  go_loopw [5, 6] (fun outv iv wr => ∃ (i : Nat) (rv : Nat → Value), i ≤ s + 1 ∧ iv = .int .i64 i ∧ TabAt w wr n i outv rv) (fun _ iv _ => s + 1 - (intOf iv).toNat)
  case atStart => exact ⟨0, fun _ => undef, by omega, rfl, World.ownsRow_nil _ _ _ _, fun q hq => absurd hq (by omega), Up.refl _⟩
  case round =>
    obtain ⟨wo, hwo⟩ : ∃ x, x = wr := ⟨_, rfl⟩
    subst hwo
    obtain ⟨i, rv, hi, rfl, hT⟩ := hrel
    have HT := Lib.hid hT
    obtain ⟨oa, oc, rfl⟩ := own_slice' hT.1
    clear hT
    by_cases hlt : i ≤ s
    · have hlt2 : (i : Int) ≤ (s : Int) := by omega
      go_wp2
      go_loopw [7, 8] (fun rowv mv w2 => ∃ m : Nat, m ≤ n + 1 ∧ mv = .int .i64 m ∧ w2.ownsRow wo.heap.size 3 1 rowv m (costRow i m) ∧ Up wo w2) (fun _ mv _ => n + 1 - (intOf mv).toNat)
      case atStart => exact ⟨0, by omega, rfl, World.ownsRow_nil _ _ _ _, Up.refl _⟩
      case round =>
        obtain ⟨w2, hw2⟩ : ∃ x, x = wr := ⟨_, rfl⟩
        subst hw2
        obtain ⟨m, hm, rfl, hown, hU2⟩ := hrel
        have HOW := Lib.hid hown
        have HU2 := Lib.hid hU2
        obtain ⟨ra, rc, rfl⟩ := own_slice' hown
        clear hown hU2
        by_cases hmn : m ≤ n
        · have hmn2 : (m : Int) ≤ (n : Int) := by omega
          obtain ⟨P, hP⟩ : ∃ P : Nat, m * (m - 1) = P := ⟨_, rfl⟩
          have hPi : (m : Int) * ((m : Int) - 1) = (P : Int) := by
            rw [← hP]
            rcases Nat.eq_zero_or_pos m with h0 | h0
            · subst h0; simp
            · rw [Int.natCast_mul, Int.natCast_sub h0]; rfl
          have hP1 : P ≤ 64 * 64 := by rw [← hP]; exact Nat.mul_le_mul (by omega) (by omega)
          have hP2 : (P : Int) ≤ 4096 := by omega
          have hP3 : (0 : Int) ≤ (P : Int) := by omega
          obtain ⟨B0, hB0⟩ : ∃ B : Nat, P / 2 = B := ⟨_, rfl⟩
          have hdv : (P : Int) / 2 = (B0 : Int) := by rw [← hB0]; simp
          have HB0 : Hid (bestK m i 0 = B0) := Lib.hid (by rw [bestK, hP, hB0])
          clear hP hB0 hP1
          go_wp2
          go_loopw [9, 10] (fun bv jv w3 => ∃ k B : Nat, k ≤ m - 1 ∧ (i = 0 → k = 0) ∧ jv = .int .i64 (k + 1) ∧ bv = .int .i64 B ∧ B ≤ 4096 ∧ bestK m i k = B ∧ Up w2 w3) (fun _ jv _ => m + 1 - (intOf jv).toNat)
          case atStart => exact ⟨0, B0, by omega, fun _ => rfl, rfl, rfl, by omega, HB0.out, Up.refl _⟩
          case round =>
            obtain ⟨w3, hw3⟩ : ∃ x, x = wr := ⟨_, rfl⟩
            subst hw3
            obtain ⟨k, B, hk, hki, rfl, rfl, hB, hbk, hU3⟩ := hrel
            have HBK := Lib.hid hbk
            have HU3 := Lib.hid hU3
            have hB2 : (B : Int) ≤ 4096 := by omega
            clear hbk hU3
            by_cases hc : k + 1 < m ∧ 0 < i
            · obtain ⟨hc1, hc2⟩ := hc
              obtain ⟨i', rfl⟩ : ∃ i', i = i' + 1 := ⟨i - 1, by omega⟩
              have T3 := HT.out.up (HU2.out.trans HU3.out)
              obtain ⟨g, cap, hv, hgb, hgl, hgc, hgf, hcells⟩ := own_get T3.1 (by omega)
              injection hv with v1 v2 v3
              subst v1 v3
              obtain ⟨q1, qcap, hq, hq1, hq2, hq3, hq4, hqc⟩ := own_get (T3.2.1 i' (by omega)) (by omega)
              have k1 : w3.cell? ⟨g, i', none⟩ = some (.slice (some ⟨q1, 0, none⟩) (n + 1) qcap) := hcells i' _ (by rw [List.getElem?_map, List.getElem?_range (by omega), ← hq]; rfl)
              obtain ⟨r, hr⟩ : ∃ r, m - (k + 1) = r := ⟨_, rfl⟩
              obtain ⟨A, hA⟩ : ∃ A, costF r i' = A := ⟨_, rfl⟩
              obtain ⟨C, hC⟩ : ∃ A, costF (k + 1) (i' + 1) = A := ⟨_, rfl⟩
              have k2 : w3.cell? ⟨q1, r, none⟩ = some (.int .i64 A) := by rw [← hA]; exact hqc r _ (costRow_get _ _ _ (by omega))
              obtain ⟨g2, cap2, hv2, hb2, hl2, hc3, hf2, hcells2⟩ := own_get (own_up HOW.out HU3.out) (by omega)
              injection hv2 with v1 v2 v3
              subst v1 v3
              have k3 : w3.cell? ⟨g2, k + 1, none⟩ = some (.int .i64 C) := by rw [← hC]; exact hcells2 _ _ (costRow_get _ _ _ (by omega))
              have hA2 : (A : Int) ≤ 4096 := by have := costF_le r i' (by omega) (by omega); omega
              have hC2 : (C : Int) ≤ 4096 := by have := costF_le (k + 1) (i' + 1) (by omega) (by omega); omega
              have hA0 : (0 : Int) ≤ (A : Int) := by omega
              have hC0 : (0 : Int) ≤ (C : Int) := by omega
              have HNX : Hid (bestK m (i' + 1) (k + 1) = min B (k + 1 + A + C)) := Lib.hid (by
                rw [bestK, HBK.out, hr]; simp only [Nat.add_sub_cancel]; rw [hA, hC])
              have hsub : (m : Int) - ((k : Int) + 1) = (r : Int) := by omega
              have hrn : (r : Int) < (n : Int) + 1 := by omega
              have hkm : (k : Int) + 1 < (m : Int) := by omega
              have hi0' : (0 : Int) < (i' : Int) + 1 := by omega
              have hii : (i' : Int) < (i' : Int) + 1 := by omega
              have hk0 : (0 : Int) ≤ (k : Int) + 1 := by omega
              have hm64 : (m : Int) ≤ 64 := by omega
              clear T3 hq hr hA hC hcells hqc hcells2 hgf hq4 hf2
              go_wp2
              go_quiet (fail)
              go_wp2
              all_goals first
                | exact ⟨⟨k + 1, by omega, by simp, B, rfl, by omega, by rw [HNX.out]; omega, HU3.out.drewN _⟩, by simp [intOf]; omega⟩
                | exact ⟨⟨k + 1, by omega, by simp, k + 1 + A + C, by simp, by omega, by rw [HNX.out]; omega, HU3.out.drewN _⟩, by simp [intOf]; omega⟩
            · have hfin : B = costF m i := by
                rw [← HBK.out]
                rcases Nat.eq_zero_or_pos i with h0 | h0
                · have := hki h0
                  subst this h0
                  exact rec_zero m (by omega)
                · rcases Nat.eq_zero_or_pos m with h1 | h1
                  · subst h1
                    obtain rfl : k = 0 := by omega
                    exact (rec_none i (by omega)).symm
                  · obtain rfl : k = m - 1 := by omega
                    exact rec_succ m i (by omega) (by omega) h0 h1
              have HFIN := Lib.hid hfin
              have HU23 : Hid (Up wo w3) := Lib.hid (HU2.out.trans HU3.out)
              have HO3 : Hid (w3.ownsRow wo.heap.size 3 1 (.slice ra m rc) m (costRow i m)) := Lib.hid (own_up HOW.out HU3.out)
              clear hfin hki
              rcases (by omega : m ≤ k + 1 ∨ (k + 1 < m ∧ i = 0)) with hc1 | ⟨hc1, hc2⟩
              · have hc3 : (m : Int) ≤ (k : Int) + 1 := by omega
                clear hc
                go_wp2_with (at_builtin; refine wpList_append_sl _ rfl _ _ 27 rfl wo.heap.size 3 i0 (.int .i64 0) 1 8 Try.underlying27 hi0 hz0 hz1 hz2 rfl (by decide) (.slice ra m rc) m _ rfl (HO3.out.alloc _) (.slice (some ⟨w3.heap.size, 0, none⟩) 1 1) 1 (fun _ _ => .int .i64 B) rfl (SlAt.one _ _ _) (fun _ _ _ _ => rfl) (by unfold maxLen; omega) (by omega) (by have := HU23.out.size; simp; omega) ?_; intro v1 w4 hown1 hg1 hat1 hnil1; obtain ⟨va, vc, rfl⟩ := own_slice' hown1; have HO1 := Lib.hid hown1; have HG1 := Lib.hid hg1; clear hown1 hg1 hat1 hnil1)
                go_roundw
                case rel =>
                  refine ⟨m + 1, by omega, by go_num, ?_, (HU23.out.alloc _).grown HG1.out (fun q hq => (HO3.out.lt q hq).1)⟩
                  have := HO1.out
                  rw [flat_one1, HFIN.out, ← costRow_succ] at this
                  exact this
                case measure => simp [intOf]; omega
              · have hc3 : (k : Int) + 1 < (m : Int) := by omega
                have hi1' : (i : Int) ≤ 0 := by omega
                clear hc hc2
                go_wp2_with (at_builtin; refine wpList_append_sl _ rfl _ _ 27 rfl wo.heap.size 3 i0 (.int .i64 0) 1 8 Try.underlying27 hi0 hz0 hz1 hz2 rfl (by decide) (.slice ra m rc) m _ rfl (HO3.out.alloc _) (.slice (some ⟨w3.heap.size, 0, none⟩) 1 1) 1 (fun _ _ => .int .i64 B) rfl (SlAt.one _ _ _) (fun _ _ _ _ => rfl) (by unfold maxLen; omega) (by omega) (by have := HU23.out.size; simp; omega) ?_; intro v1 w4 hown1 hg1 hat1 hnil1; obtain ⟨va, vc, rfl⟩ := own_slice' hown1; have HO1 := Lib.hid hown1; have HG1 := Lib.hid hg1; clear hown1 hg1 hat1 hnil1)
                go_roundw
                case rel =>
                  refine ⟨m + 1, by omega, by go_num, ?_, (HU23.out.alloc _).grown HG1.out (fun q hq => (HO3.out.lt q hq).1)⟩
                  have := HO1.out
                  rw [flat_one1, HFIN.out, ← costRow_succ] at this
                  exact this
                case measure => simp [intOf]; omega
        · have hmn2 : (n : Int) < (m : Int) := by omega
          obtain rfl : m = n + 1 := by omega
          have HU2s : Hid (wo.heap.size ≤ w2.heap.size) := Lib.hid HU2.out.size
          have HTT := Lib.hid (HT.out.up HU2.out)
          go_wp2_with (at_builtin; refine wpList_append_sl _ rfl _ _ 28 rfl w.heap.size 27 i1 (.slice none 0 0) 1 24 Try.underlying28 hi1 hy0 hy1 hy2 rfl (by decide) (.slice oa i oc) i _ rfl (HTT.out.1.alloc _) (.slice (some ⟨w2.heap.size, 0, none⟩) 1 1) 1 (fun _ _ => .slice ra (n + 1) rc) rfl (SlAt.one _ _ _) (fun _ _ _ _ => rfl) (by unfold maxLen; omega) (by omega) (by have := HTT.out.2.2.size; simp; omega) ?_; intro v1 w4 hown1 hg1 hat1 hnil1; obtain ⟨va, vc, rfl⟩ := own_slice' hown1; have HO1 := Lib.hid hown1; have HG1 := Lib.hid hg1; clear hown1 hg1 hat1 hnil1)
          go_roundw
          case rel =>
            have hne : 3 ≠ 27 := by decide
            have hrow := own_base HOW.out HT.out.2.2.size
            refine ⟨i + 1, fun q => if q = i then .slice ra (n + 1) rc else rv q, by omega, by go_num, ?_, fun q hq => ?_, ?_⟩
            · have := HO1.out
              rw [flat_one1] at this
              have e : (List.range (i + 1)).map (fun q => if q = i then Value.slice ra (n + 1) rc else rv q) = (List.range i).map rv ++ [Value.slice ra (n + 1) rc] := by
                rw [List.range_succ, List.map_append]
                congr 1
                · refine List.map_congr_left fun q hq => ?_
                  rw [if_neg (by have := List.mem_range.1 hq; omega)]
                · simp
              rw [e]
              exact this
            · by_cases hqi : q = i
              · subst hqi
                simp only [if_true]
                exact World.ownsRow.kept (hrow.alloc _) HG1.out (own_apart hrow HTT.out.1 hne)
              · simp only [hqi, if_false]
                have h := HTT.out.2.1 q (by omega)
                exact World.ownsRow.kept (h.alloc _) HG1.out (own_apart h HTT.out.1 hne)
            · exact (HTT.out.2.2.alloc _).grown HG1.out (fun q hq => (HTT.out.1.lt q hq).1)
          case measure => simp [intOf]; omega
    · have hlt2 : (s : Int) < (i : Int) := by omega
      obtain rfl : i = s + 1 := by omega
      go_wp2
      go_ret
      exact ⟨_, rv, rfl, HT.out⟩
end Go.Proofs.Ytdanjghefhjmcaa
