/-
  Compare of the reference.
-/
import Derived.Test.YtahlecmlhdikjaaDoorGi
import Derived.BigRegion
import Derived.Deep.RegionWith
namespace Go.Proofs.YtahlecmlhdikjaaDoor
open Go.ChangeShapes Go.WideShapes Go.ChangeAt Go.RowKit
set_option linter.unusedVariables false

theorem cb_less : ∀ x y : List UInt8, Op.bytesLess x y = true → Lib.compareBytes x y = -1
  | [], [], h => by cases h
  | [], _ :: _, _ => rfl
  | _ :: _, [], h => by cases h
  | a :: x, b :: y, h => by
    unfold Lib.compareBytes
    rcases (bl_iff a b x y).1 h with h1 | ⟨rfl, h1⟩
    · rw [if_pos h1]
    · rw [if_neg (u8_irrefl _), if_neg (u8_irrefl _), cb_less x y h1]
theorem cb_more : ∀ x y : List UInt8, Op.bytesLess y x = true → Lib.compareBytes x y = 1
  | [], [], h => by cases h
  | [], _ :: _, h => by cases h
  | _ :: _, [], _ => rfl
  | a :: x, b :: y, h => by
    unfold Lib.compareBytes
    rcases (bl_iff b a y x).1 h with h1 | ⟨rfl, h1⟩
    · rw [if_neg (u8_asymm h1), if_pos h1]
    · rw [if_neg (u8_irrefl _), if_neg (u8_irrefl _), cb_more x y h1]
theorem cmpM_same (s : ByteArray) (b b' : Int) : cmpM (s, b) (s, b') = orderF b b' := by unfold cmpM; rw [if_pos rfl]
theorem cmpM_less {s s' : ByteArray} (b b' : Int) (h : Op.bytesLess s.toList s'.toList = true) : cmpM (s, b) (s', b') = -1 := by
  unfold cmpM
  rw [if_neg (fun e => by have e' : s = s' := e; rw [e', bl_irrefl] at h; cases h), cb_less _ _ h]
theorem cmpM_more {s s' : ByteArray} (b b' : Int) (hn : s ≠ s') (h : Op.bytesLess s.toList s'.toList = false) : cmpM (s, b) (s', b') = 1 := by
  unfold cmpM
  rw [if_neg hn]
  apply cb_more
  cases g : Op.bytesLess s'.toList s.toList
  · exact absurd (toList_inj (bl_total _ _ h g)) hn
  · rfl

set_option maxHeartbeats 4000000 in
theorem r05_Compare (K K' : Int) (v v' : Value) (l l' : List Mono) (w : World) (hv : MonosAt w v l) (hv' : MonosAt w v' l') :
    Calls Tryd.prog 74 #[.agg #[.int .i64 K, v], .agg #[.int .i64 K', v']] w fun e w' => e = .returned (.int .i64 (compareF K l K' l')) ∧ Up w w' := by
  have hmax := hv.max
  have hmax' := hv'.max
  obtain ⟨r, hr⟩ : ∃ r, compareF K l K' l' = r := ⟨_, rfl⟩
  rw [hr]
  obtain ⟨a, cap, rfl⟩ := hv.slice
  obtain ⟨a', cap', rfl⟩ := hv'.slice
  obtain ⟨n, hn⟩ : ∃ n, l.length = n := ⟨_, rfl⟩
  obtain ⟨n', hn'⟩ : ∃ n', l'.length = n' := ⟨_, rfl⟩
  rw [hn] at hv hmax ⊢
  rw [hn'] at hv' hmax' ⊢
  have HV := Lib.hid hv
  have HV' := Lib.hid hv'
  have HN := Lib.hid hn
  have HN' := Lib.hid hn'
  have HR : Hid ((if cmpL l l' ≠ 0 then cmpL l l' else orderF K K') = r) := Lib.hid hr
  clear hr hn hv hv' hn'
  go_enter Tryd.func74, Tryd.ntmps74
  go_wp2
  obtain ⟨W1, hW1⟩ : ∃ W1, (w.alloc (.cells #[.int .i64 K, .slice a n cap] 24)).alloc (.cells #[.int .i64 K', .slice a' n' cap'] 24) = W1 := ⟨_, rfl⟩
  obtain ⟨B, hB⟩ : ∃ B, w.heap.size = B := ⟨_, rfl⟩
  have hrow : W1.heap[B]? = some (.cells #[.int .i64 K, .slice a n cap] 24 (0, 0)) := by
    rw [← hW1, ← hB]; exact (Below.heap_alloc _ _ _ (by rw [size_alloc]; omega)).trans (heap_alloc_new w _)
  have hrow' : W1.heap[B + 1]? = some (.cells #[.int .i64 K', .slice a' n' cap'] 24 (0, 0)) := by
    rw [← hW1, ← hB]
    have := heap_alloc_new (w.alloc (.cells #[.int .i64 K, .slice a n cap] 24)) (.cells #[.int .i64 K', .slice a' n' cap'] 24)
    rw [size_alloc] at this
    exact this
  have hsz1 : W1.heap.size = B + 1 + 1 := by rw [← hW1, size_alloc, size_alloc, hB]
  have HU1 : Hid (Up w W1) := Lib.hid (hW1 ▸ ((Up.refl w).alloc _).alloc _)
  rw [hW1]
  have HROW := Lib.hid hrow
  have HROW' := Lib.hid hrow'
  clear hrow hrow' hW1
  rw [hB]
  have HB := Lib.hid hB
  clear hB
  go_loopw [5] (fun i wr => ∃ k : Nat, k ≤ n ∧ k ≤ n' ∧ i = .int .i64 k ∧ Up W1 wr ∧ cmpL (l.drop k) (l'.drop k) = cmpL l l') (fun i _ => n - (intOf i).toNat)
  case atStart => exact ⟨0, by omega, by omega, rfl, Up.refl _, by rw [List.drop_zero, List.drop_zero]⟩
  case round =>
    rename_i wr
    obtain ⟨k, hk, hk', rfl, hU1, hP⟩ := hrel
    have hU := HU1.out.trans hU1
    have HP := Lib.hid hP
    clear hP
    have d0 : wr.cell? ⟨B, 0, none⟩ = some (.int .i64 K) := (hU1.cell _ _ (by omega)).trans (cell_of_row _ _ _ _ _ _ HROW.out)
    have d1 : wr.cell? ⟨B, 1, none⟩ = some (.slice a n cap) := (hU1.cell _ _ (by omega)).trans (cell_of_row _ _ _ _ _ _ HROW.out)
    have d2 : wr.cell? ⟨B + 1, 0, none⟩ = some (.int .i64 K') := (hU1.cell _ _ (by omega)).trans (cell_of_row _ _ _ _ _ _ HROW'.out)
    have d3 : wr.cell? ⟨B + 1, 1, none⟩ = some (.slice a' n' cap') := (hU1.cell _ _ (by omega)).trans (cell_of_row _ _ _ _ _ _ HROW'.out)
    have hs1 := hU1.size
    have q3 : B < wr.heap.size := by omega
    have q4 : B + 1 < wr.heap.size := by omega
    by_cases hlt : k < n
    · have hlt2 : (k : Int) < (n : Int) := by omega
      have hk0 : (0 : Int) ≤ (k : Int) := by omega
      by_cases hlt' : k < n'
      · have hlt3 : (k : Int) < (n' : Int) := by omega
        obtain ⟨bl, off, s, b, rfl, p1, p2, p3, p4⟩ := HV.out.elem hU k (by rw [HN.out]; exact hlt) HN.out rfl
        obtain ⟨bl', off', s', b', rfl, p1', p2', p3', p4'⟩ := HV'.out.elem hU k (by rw [HN'.out]; exact hlt') HN'.out rfl
        have hs := hU.size
        have q1 : bl < wr.heap.size := by omega
        have q2 : bl' < wr.heap.size := by omega
        have HP2 : Hid ((if cmpM (s, b) (s', b') ≠ 0 then cmpM (s, b) (s', b') else cmpL (l.drop (k + 1)) (l'.drop (k + 1))) = cmpL l l') := Lib.hid (by
          rw [← HP.out, drop_mono (by rw [HN.out]; exact hlt) p2, drop_mono (l := l') (by rw [HN'.out]; exact hlt') p2']; rfl)
        clear p2 p2' HP
        have HUU := Lib.hid hU
        have HUV := Lib.hid hU1
        clear hs hs1 hU hU1
        go_wp2_with fail
        go_region
        all_goals
          by_cases hss : s = s'
          · subst hss
            have h8 : Op.bytesLess s.toList s.toList = false := bl_irrefl _
            rcases (by omega : b < b' ∨ b = b' ∨ b' < b) with hb | hb | hb
            · have HG : Hid (-1 = r) := Lib.hid (by
                have : cmpL l l' = -1 := by
                  rw [← HP2.out, cmpM_same]; unfold orderF; rw [if_pos hb]; rfl
                rw [← HR.out, this]; rfl)
              go_wp2
              go_ret
              exact ⟨ret_int HG.out, (by repeat (first | exact HUU.out | exact HUV.out | refine Up.drew ?_ | refine Up.drewN _ ?_ | refine Up.setCell ?_ (by first | (simp; done) | (simp; omega)) _ | refine Up.alloc ?_ _))⟩
            · subst hb
              have HG : Hid (cmpL (l.drop (k + 1)) (l'.drop (k + 1)) = cmpL l l') := Lib.hid (by
                rw [← HP2.out, cmpM_same]; unfold orderF; simp)
              go_wp2
              go_roundw
              case rel => exact ⟨k + 1, by omega, by omega, by go_num, (by repeat (first | exact HUU.out | exact HUV.out | refine Up.drew ?_ | refine Up.drewN _ ?_ | refine Up.setCell ?_ (by first | (simp; done) | (simp; omega)) _ | refine Up.alloc ?_ _)), HG.out⟩
              case measure => simp [intOf]; omega
            · have h9 : ¬ b < b' := by omega
              have h10 : (b == b') = false := by simp; omega
              have HG : Hid (1 = r) := Lib.hid (by
                have : cmpL l l' = 1 := by
                  rw [← HP2.out, cmpM_same]; unfold orderF; rw [if_neg h9, if_pos hb]; rfl
                rw [← HR.out, this]; rfl)
              go_wp2
              go_ret
              exact ⟨ret_int HG.out, (by repeat (first | exact HUU.out | exact HUV.out | refine Up.drew ?_ | refine Up.drewN _ ?_ | refine Up.setCell ?_ (by first | (simp; done) | (simp; omega)) _ | refine Up.alloc ?_ _))⟩
          · have hs2 : (s.toList == s'.toList) = false := by simpa using fun e => hss (toList_inj e)
            have hs3 : ¬ s.toList = s'.toList := by simpa using hs2
            cases h8 : Op.bytesLess s.toList s'.toList
            · have HG : Hid (1 = r) := Lib.hid (by
                have : cmpL l l' = 1 := by
                  rw [← HP2.out, cmpM_more b b' hss h8]; rfl
                rw [← HR.out, this]; rfl)
              go_wp2
              go_ret
              exact ⟨ret_int HG.out, (by repeat (first | exact HUU.out | exact HUV.out | refine Up.drew ?_ | refine Up.drewN _ ?_ | refine Up.setCell ?_ (by first | (simp; done) | (simp; omega)) _ | refine Up.alloc ?_ _))⟩
            · have HG : Hid (-1 = r) := Lib.hid (by
                have : cmpL l l' = -1 := by
                  rw [← HP2.out, cmpM_less b b' h8]; rfl
                rw [← HR.out, this]; rfl)
              go_wp2
              go_ret
              exact ⟨ret_int HG.out, (by repeat (first | exact HUU.out | exact HUV.out | refine Up.drew ?_ | refine Up.drewN _ ?_ | refine Up.setCell ?_ (by first | (simp; done) | (simp; omega)) _ | refine Up.alloc ?_ _))⟩
      · have hlt3 : (n' : Int) ≤ (k : Int) := by omega
        have h9 : (n' : Int) < (n : Int) := by omega
        have h10 : ((n : Int) == (n' : Int)) = false := by simp; omega
        have HG : Hid (1 = r) := Lib.hid (by
          have hd : l'.drop k = [] := List.drop_eq_nil_of_le (by rw [HN'.out]; omega)
          obtain ⟨m, hm⟩ : ∃ m, l.getD k m0 = m := ⟨_, rfl⟩
          have : cmpL l l' = 1 := by rw [← HP.out, drop_mono (by rw [HN.out]; exact hlt) hm, hd]; rfl
          rw [← HR.out, this]; rfl)
        go_wp2
        go_ret
        exact ⟨ret_int HG.out, hU⟩
    · have hlt2 : (n : Int) ≤ (k : Int) := by omega
      have hdl : l.drop k = [] := List.drop_eq_nil_of_le (by rw [HN.out]; omega)
      by_cases hnn : n < n'
      · have h9 : (n : Int) < (n' : Int) := by omega
        have HG : Hid (-1 = r) := Lib.hid (by
          obtain ⟨m, hm⟩ : ∃ m, l'.getD k m0 = m := ⟨_, rfl⟩
          have : cmpL l l' = -1 := by rw [← HP.out, hdl, drop_mono (l := l') (by rw [HN'.out]; omega) hm]; rfl
          rw [← HR.out, this]; rfl)
        clear hdl
        go_wp2
        go_ret
        exact ⟨ret_int HG.out, hU⟩
      · have hne : n' = n := by omega
        have HG : Hid (orderF K K' = r) := Lib.hid (by
          have hd : l'.drop k = [] := List.drop_eq_nil_of_le (by rw [HN'.out]; omega)
          have : cmpL l l' = 0 := by rw [← HP.out, hdl, hd]; rfl
          rw [← HR.out, this]; simp)
        clear hdl
        subst hne
        rcases (by omega : K < K' ∨ K = K' ∨ K' < K) with hb | hb | hb
        · have HG2 : Hid (-1 = r) := Lib.hid (by rw [← HG.out]; unfold orderF; rw [if_pos hb])
          go_wp2
          go_ret
          exact ⟨ret_int HG2.out, hU⟩
        · subst hb
          have HG2 : Hid (0 = r) := Lib.hid (by rw [← HG.out]; unfold orderF; simp)
          go_wp2
          go_ret
          exact ⟨ret_int HG2.out, hU⟩
        · have h9 : ¬ K < K' := by omega
          have HG2 : Hid (1 = r) := Lib.hid (by rw [← HG.out]; unfold orderF; rw [if_neg h9, if_pos hb])
          go_wp2
          go_ret
          exact ⟨ret_int HG2.out, hU⟩
end Go.Proofs.YtahlecmlhdikjaaDoor
