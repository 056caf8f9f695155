/-
  Equality of linear forms: Same, and Lin of the base package; the constant form and the form of one variable.
-/
import Derived.Test.YtpclbgaaoednnaaLin2
namespace Go.Proofs.Ytpclbgaaoednnaa
open Go.ChangeShapes Go.WideShapes Go.ChangeAt Go.RowKit
set_option linter.unusedVariables false

def eqForm (K K' : Int) (l l' : List Mono) : Bool := decide (K = K') && eqM l l'

theorem lin_Same (K K' : Int) (v v' : Value) (l l' : List Mono) (w : World) (hv : MonosAt w v l) (hv' : MonosAt w v' l') :
    Calls Try.prog 12 #[.agg #[.int .i64 K, v], .agg #[.int .i64 K', v']] w fun e w' => e = .returned (.bool (eqForm K K' l l')) ∧ Up w w' := by
  obtain ⟨r, hr⟩ : ∃ r, eqM l l' = r := ⟨_, rfl⟩
  unfold eqForm
  rw [hr]
  have HV := Lib.hid hv
  have HV' := Lib.hid hv'
  have HR := Lib.hid hr
  obtain ⟨a, cap, rfl⟩ := hv.slice
  obtain ⟨a', cap', rfl⟩ := hv'.slice
  obtain ⟨n, hn⟩ : ∃ n, l.length = n := ⟨_, rfl⟩
  obtain ⟨n', hn'⟩ : ∃ n', l'.length = n' := ⟨_, rfl⟩
  rw [hn] at HV ⊢
  rw [hn'] at HV' ⊢
  clear hv hv' hr hn hn'
  by_cases hk : K = K'
  · subst hk
    go_enter Try.func12, Try.ntmps12
    go_wp2_with fail
    refine (slices_EqualM _ _ _ _ _ (HV.out.up (((Up.refl w).alloc _).alloc _)) (HV'.out.up (((Up.refl w).alloc _).alloc _))).mono ?_
    rintro e x ⟨rfl, hx⟩
    rw [HR.out]
    go_wp2
    go_ret
    exact ⟨ret_bool (by simp), (((Up.refl w).alloc _).alloc _).trans hx⟩
  · have h1 : (K == K') = false := by simpa using hk
    go_enter Try.func12, Try.ntmps12
    go_wp2
    go_ret
    exact ⟨ret_bool (by simp [hk]), (((Up.refl w).alloc _).alloc _)⟩

set_option maxHeartbeats 2000000 in
theorem base_Lin (K K' : Int) (v v' : Value) (l l' : List Mono) (w : World) (hv : MonosAt w v l) (hv' : MonosAt w v' l') :
    Calls Try.prog 15 #[.agg #[.int .i64 K, v], .agg #[.int .i64 K', v']] w fun e w' => e = .returned (.bool (eqForm K K' l l')) ∧ Up w w' := by
  have hmax := hv.max
  have hmax' := hv'.max
  obtain ⟨r, hr⟩ : ∃ r, eqM l l' = r := ⟨_, rfl⟩
  unfold eqForm
  rw [hr]
  obtain ⟨a, cap, rfl⟩ := hv.slice
  obtain ⟨a', cap', rfl⟩ := hv'.slice
  obtain ⟨n, hn⟩ : ∃ n, l.length = n := ⟨_, rfl⟩
  obtain ⟨n', hn'⟩ : ∃ n', l'.length = n' := ⟨_, rfl⟩
  rw [hn] at hv hmax ⊢
  rw [hn'] at hv' hmax' ⊢
  have HV := Lib.hid hv
  have HV' := Lib.hid hv'
  have HN := Lib.hid hn
  have HN' := Lib.hid hn'
  have HR := Lib.hid hr
  clear hr hn hv hv' hn'
  by_cases hk : K = K'
  · subst hk
    rw [show decide (K = K) = true by simp, Bool.true_and]
    by_cases hnn : n = n'
    · subst hnn
      go_enter Try.func15, Try.ntmps15
      go_wp2
      obtain ⟨W1, hW1⟩ : ∃ W1, (w.alloc (.cells #[.int .i64 K, .slice a n cap] 25)).alloc (.cells #[.int .i64 K, .slice a' n cap'] 25) = W1 := ⟨_, rfl⟩
      obtain ⟨B, hB⟩ : ∃ B, w.heap.size = B := ⟨_, rfl⟩
      have hrow : W1.heap[B]? = some (.cells #[.int .i64 K, .slice a n cap] 25 (0, 0)) := by
        rw [← hW1, ← hB]; exact (Below.heap_alloc _ _ _ (by rw [size_alloc]; omega)).trans (heap_alloc_new w _)
      have hrow' : W1.heap[B + 1]? = some (.cells #[.int .i64 K, .slice a' n cap'] 25 (0, 0)) := by
        rw [← hW1, ← hB]
        have := heap_alloc_new (w.alloc (.cells #[.int .i64 K, .slice a n cap] 25)) (.cells #[.int .i64 K, .slice a' n cap'] 25)
        rw [size_alloc] at this
        exact this
      have hsz1 : W1.heap.size = B + 1 + 1 := by rw [← hW1, size_alloc, size_alloc, hB]
      have HU1 : Hid (Up w W1) := Lib.hid (hW1 ▸ ((Up.refl w).alloc _).alloc _)
      rw [hW1]
      have HROW := Lib.hid hrow
      have HROW' := Lib.hid hrow'
      clear hrow hrow' hW1
      rw [hB]
      have HB := Lib.hid hB
      clear hB
      go_loopw [5] (fun i wr => ∃ k : Nat, k ≤ n ∧ i = .int .i64 k ∧ Up W1 wr ∧ eqM (l.drop k) (l'.drop k) = r) (fun i _ => n - (intOf i).toNat)
      case atStart => exact ⟨0, by omega, rfl, Up.refl _, by rw [List.drop_zero, List.drop_zero]; exact HR.out⟩
      case round =>
        rename_i wr
        obtain ⟨k, hk, rfl, hU1, hP⟩ := hrel
        have hU := HU1.out.trans hU1
        have HP := Lib.hid hP
        clear hP
        have d1 : wr.cell? ⟨B, 1, none⟩ = some (.slice a n cap) := (hU1.cell _ _ (by omega)).trans (cell_of_row _ _ _ _ _ _ HROW.out)
        have d2 : wr.cell? ⟨B + 1, 1, none⟩ = some (.slice a' n cap') := (hU1.cell _ _ (by omega)).trans (cell_of_row _ _ _ _ _ _ HROW'.out)
        have hs1 := hU1.size
        have q3 : B < wr.heap.size := by omega
        have q4 : B + 1 < wr.heap.size := by omega
        by_cases hlt : k < n
        · have hlt2 : (k : Int) < (n : Int) := by omega
          have hk0 : (0 : Int) ≤ (k : Int) := by omega
          obtain ⟨bl, off, s, b, rfl, p1, p2, p3, p4⟩ := HV.out.elem hU k (by rw [HN.out]; exact hlt) HN.out rfl
          obtain ⟨bl', off', s', b', rfl, p1', p2', p3', p4'⟩ := HV'.out.elem hU k (by rw [HN'.out]; exact hlt) HN'.out rfl
          have hs := hU.size
          have q1 : bl < wr.heap.size := by omega
          have q2 : bl' < wr.heap.size := by omega
          have HP2 : Hid ((decide (s = s') && decide (b = b') && eqM (l.drop (k + 1)) (l'.drop (k + 1))) = r) := Lib.hid (by
            rw [← HP.out, drop_mono (by rw [HN.out]; exact hlt) p2, drop_mono (l := l') (by rw [HN'.out]; exact hlt) p2', eqM_cons])
          clear p2 p2' HP
          by_cases hss : s = s'
          · subst hss
            by_cases hbb : b = b'
            · subst hbb
              have HG : Hid (eqM (l.drop (k + 1)) (l'.drop (k + 1)) = r) := Lib.hid (by rw [← HP2.out]; simp)
              go_wp2_with fail
              refine wp_region_ext (by kernel_rfl) (by kernel_rfl) ?_
              repeat (go_big_quiet_step (fail))
              refine wpQuiet_nil ?_
              intro x hx
              go_wp2
              go_roundw
              case rel => exact ⟨k + 1, by omega, by go_num, hU1.trans hx, HG.out⟩
              case measure => simp [intOf]; omega
            · have hb2 : (b == b') = false := by simpa using hbb
              have HG : Hid (false = r) := Lib.hid (by rw [← HP2.out]; simp [hbb])
              go_wp2_with fail
              refine wp_region_ext (by kernel_rfl) (by kernel_rfl) ?_
              repeat (go_big_quiet_step (fail))
              refine wpQuiet_nil ?_
              intro x hx
              go_wp2
              go_ret
              exact ⟨ret_bool HG.out, hU.trans hx⟩
          · have hs2 : (s.toList == s'.toList) = false := by simpa using fun e => hss (toList_inj e)
            have HG : Hid (false = r) := Lib.hid (by rw [← HP2.out]; simp [hss])
            go_wp2_with fail
            refine wp_region_ext (by kernel_rfl) (by kernel_rfl) ?_
            repeat (go_big_quiet_step (fail))
            refine wpQuiet_nil ?_
            intro x hx
            go_wp2
            go_ret
            exact ⟨ret_bool HG.out, hU.trans hx⟩
        · have hlt2 : (n : Int) ≤ (k : Int) := by omega
          obtain rfl : r = true := by rw [← HP.out, List.drop_eq_nil_of_le (by rw [HN.out]; omega), List.drop_eq_nil_of_le (by rw [HN'.out]; omega)]; rfl
          go_wp2
          go_ret
          exact ⟨rfl, hU⟩
    · have h1 : ((n : Int) == (n' : Int)) = false := by simpa using (by omega : ¬ (n : Int) = (n' : Int))
      have HG : Hid (false = r) := Lib.hid (by rw [← HR.out, eqM_len (by rw [HN.out, HN'.out]; exact hnn)])
      go_enter Try.func15, Try.ntmps15
      go_wp2
      go_ret
      exact ⟨ret_bool HG.out, (((Up.refl w).alloc _).alloc _)⟩
  · have h1 : (K == K') = false := by simpa using hk
    go_enter Try.func15, Try.ntmps15
    go_wp2
    go_ret
    exact ⟨ret_bool (by simp [hk]), (((Up.refl w).alloc _).alloc _)⟩

theorem lin_Const (K : Int) (w : World) : Calls Try.prog 13 #[.int .i64 K] w fun e w' => e = .returned (.agg #[.int .i64 K, .slice none 0 0]) ∧ Up w w' := by
  go_enter Try.func13, Try.ntmps13
  go_wp2
  refine bodyPost_ret (v := .agg #[.int .i64 K, .slice none 0 0]) (by simp [results, Try.results13, go_sem]) rfl ?_
  refine ⟨rfl, ?_⟩
  repeat (first | exact Up.refl _ | refine Up.drewN _ ?_ | refine Up.setCell ?_ (by first | (simp; done) | (simp; omega)) _ | refine Up.alloc ?_ _)
theorem r05_Const (K : Int) (w : World) : Calls Try.prog 14 #[.int .i64 K] w fun e w' => e = .returned (.agg #[.int .i64 K, .slice none 0 0]) ∧ Up w w' := by
  go_enter Try.func14, Try.ntmps14
  go_wp2
  refine bodyPost_ret (v := .agg #[.int .i64 K, .slice none 0 0]) (by simp [results, Try.results14, go_sem]) rfl ?_
  refine ⟨rfl, ?_⟩
  repeat (first | exact Up.refl _ | refine Up.drewN _ ?_ | refine Up.setCell ?_ (by first | (simp; done) | (simp; omega)) _ | refine Up.alloc ?_ _)

def varL (s : ByteArray) : List Mono := if nameB s.toList then [(s, 1)] else []
theorem monos_nil (w : World) : MonosAt w (.slice none 0 0) [] := SlAt.nil w 2 _
theorem monos_one (w : World) (t : TypeId) (s : ByteArray) (b : Int) : MonosAt (w.alloc (.cells #[.string s, .int .i64 b] t)) (.slice (some ⟨w.heap.size, 0, none⟩) 1 1) [(s, b)] :=
  SlAt.new w t _ 1 2 _ (by decide) fun i j hi hj => by
    obtain rfl : i = 0 := by omega
    rcases (by omega : j = 0 ∨ j = 1) with rfl | rfl <;> rfl

theorem lin_Var (s : ByteArray) (w : World) : Calls Try.prog 16 #[.string s] w fun e w' => ∃ v, e = .returned (.agg #[.int .i64 0, v]) ∧ MonosAt w' v (varL s) ∧ Up w w' := by
  obtain ⟨q, hq⟩ : ∃ q, nameB s.toList = q := ⟨_, rfl⟩
  have HI : Hid (∀ w, Calls Try.prog 42 #[.string s] w fun e w' => e = .returned (.bool q) ∧ Up w w') := Lib.hid fun w => by
    rw [← hq]
    exact (lin_identifier s w).mono fun e w' ⟨h1, h2⟩ => ⟨h1, h2 ▸ Up.refl _⟩
  unfold varL
  rw [hq]
  clear hq
  go_enter Try.func16, Try.ntmps16
  go_wp2_with fail
  refine (HI.out _).mono ?_
  rintro e x ⟨rfl, hx⟩
  have hs := hx.size
  rw [size_alloc] at hs
  have q1 : w.heap.size < x.heap.size := by omega
  have c0 : x.cell? ⟨w.heap.size, 0, none⟩ = some (.int .i64 0) := (hx.cell _ _ (by rw [size_alloc]; omega)).trans (by go_simp)
  have c1 : x.cell? ⟨w.heap.size, 1, none⟩ = some (.slice none 0 0) := (hx.cell _ _ (by rw [size_alloc]; omega)).trans (by go_simp)
  have f1 : ∀ o, x.frozen? ⟨w.heap.size, o, none⟩ = false := fun o => (hx.frozen _ _ (by rw [size_alloc]; omega)).trans (by go_simp)
  have HU := Lib.hid (((Up.refl w).alloc _).trans hx)
  clear hx hs
  have hne : (w.heap.size = x.heap.size) = False := by simp; omega
  have hnf : (x.heap.size = w.heap.size) = False := by simp; omega
  cases q
  · go_wp2
    refine bodyPost_ret (v := .agg #[.int .i64 0, .slice none 0 0]) (by simp [results, Try.results16, go_sem, c0, c1]) rfl ?_
    refine ⟨_, rfl, monos_nil _, ?_⟩
    repeat (first | exact HU.out | refine Up.setCell ?_ (by first | (simp; done) | (simp; omega)) _)
  · go_wp2
    obtain ⟨x', hx'⟩ : ∃ x', (x.setCell ⟨w.heap.size, 0, none⟩ (.int .i64 0)).setCell ⟨w.heap.size, 1, none⟩ (.slice (some ⟨x.heap.size, 0, none⟩) 1 1) = x' := ⟨_, rfl⟩
    have hsz : x'.heap.size = x.heap.size := by rw [← hx']; simp
    have e0 : x'.cell? ⟨w.heap.size, 0, none⟩ = some (.int .i64 0) := by rw [← hx']; clear hsz hx'; go_simp
    have e1 : x'.cell? ⟨w.heap.size, 1, none⟩ = some (.slice (some ⟨x.heap.size, 0, none⟩) 1 1) := by rw [← hx']; clear e0 hsz hx'; go_simp
    have HX : Up w x' := by
      rw [← hx']
      repeat (first | exact HU.out | refine Up.setCell ?_ (by first | (simp; done) | (simp; omega)) _)
    rw [hx']
    clear hx' c0 c1 f1
    have q2 : w.heap.size < x'.heap.size := by omega
    refine bodyPost_ret (v := .agg #[.int .i64 0, .slice (some ⟨x.heap.size, 0, none⟩) 1 1]) (by simp [results, Try.results16, go_sem, World.cell?_alloc_lt, q2, e0, e1]) rfl ?_
    refine ⟨_, rfl, ?_, HX.alloc _⟩
    rw [← hsz]
    exact monos_one x' _ s 1

theorem r05_Var (s : ByteArray) (w : World) : Calls Try.prog 17 #[.string s] w fun e w' => ∃ v, e = .returned (.agg #[.int .i64 0, v]) ∧ MonosAt w' v (varL s) ∧ Up w w' := by
  obtain ⟨q, hq⟩ : ∃ q, nameB s.toList = q := ⟨_, rfl⟩
  have HI : Hid (∀ w, Calls Try.prog 43 #[.string s] w fun e w' => e = .returned (.bool q) ∧ Up w w') := Lib.hid fun w => by
    rw [← hq]
    exact base_Name s w
  unfold varL
  rw [hq]
  clear hq
  go_enter Try.func17, Try.ntmps17
  go_wp2_with fail
  refine (HI.out _).mono ?_
  rintro e x ⟨rfl, hx⟩
  have hs := hx.size
  rw [size_alloc] at hs
  have q1 : w.heap.size < x.heap.size := by omega
  have c0 : x.cell? ⟨w.heap.size, 0, none⟩ = some (.int .i64 0) := (hx.cell _ _ (by rw [size_alloc]; omega)).trans (by go_simp)
  have c1 : x.cell? ⟨w.heap.size, 1, none⟩ = some (.slice none 0 0) := (hx.cell _ _ (by rw [size_alloc]; omega)).trans (by go_simp)
  have f1 : ∀ o, x.frozen? ⟨w.heap.size, o, none⟩ = false := fun o => (hx.frozen _ _ (by rw [size_alloc]; omega)).trans (by go_simp)
  have HU := Lib.hid (((Up.refl w).alloc _).trans hx)
  clear hx hs
  have hne : (w.heap.size = x.heap.size) = False := by simp; omega
  have hnf : (x.heap.size = w.heap.size) = False := by simp; omega
  cases q
  · go_wp2
    refine bodyPost_ret (v := .agg #[.int .i64 0, .slice none 0 0]) (by simp [results, Try.results17, go_sem, c0, c1]) rfl ?_
    refine ⟨_, rfl, monos_nil _, ?_⟩
    repeat (first | exact HU.out | refine Up.setCell ?_ (by first | (simp; done) | (simp; omega)) _)
  · go_wp2
    obtain ⟨x', hx'⟩ : ∃ x', (x.setCell ⟨w.heap.size, 0, none⟩ (.int .i64 0)).setCell ⟨w.heap.size, 1, none⟩ (.slice (some ⟨x.heap.size, 0, none⟩) 1 1) = x' := ⟨_, rfl⟩
    have hsz : x'.heap.size = x.heap.size := by rw [← hx']; simp
    have e0 : x'.cell? ⟨w.heap.size, 0, none⟩ = some (.int .i64 0) := by rw [← hx']; clear hsz hx'; go_simp
    have e1 : x'.cell? ⟨w.heap.size, 1, none⟩ = some (.slice (some ⟨x.heap.size, 0, none⟩) 1 1) := by rw [← hx']; clear e0 hsz hx'; go_simp
    have HX : Up w x' := by
      rw [← hx']
      repeat (first | exact HU.out | refine Up.setCell ?_ (by first | (simp; done) | (simp; omega)) _)
    rw [hx']
    clear hx' c0 c1 f1
    have q2 : w.heap.size < x'.heap.size := by omega
    refine bodyPost_ret (v := .agg #[.int .i64 0, .slice (some ⟨x.heap.size, 0, none⟩) 1 1]) (by simp [results, Try.results17, go_sem, World.cell?_alloc_lt, q2, e0, e1]) rfl ?_
    refine ⟨_, rfl, ?_, HX.alloc _⟩
    rw [← hsz]
    exact monos_one x' _ s 1
end Go.Proofs.Ytpclbgaaoednnaa
