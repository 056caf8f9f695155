/-
  Equality of linear forms: slices.Equal, Same, and Lin of the base package; the constant form and the form of one variable.
-/
import Derived.Test.YtpclbgaaoednnaaLin1
import Derived.Laws.StructEq
namespace Go.Proofs.Ytpclbgaaoednnaa
open Go.ChangeShapes Go.WideShapes Go.ChangeAt Go.RowKit
set_option linter.unusedVariables false

def eqM (l l' : List Mono) : Bool := decide (l = l')
theorem eqM_cons (m m' : Mono) (l l' : List Mono) : eqM (m :: l) (m' :: l') = (decide (m.1 = m'.1) && decide (m.2 = m'.2) && eqM l l') := by
  obtain ⟨a, b⟩ := m
  obtain ⟨c, d⟩ := m'
  unfold eqM
  simp [Bool.and_assoc]
theorem toList_inj {s t : ByteArray} (h : s.toList = t.toList) : s = t := by
  rw [Lib.toList_data, Lib.toList_data] at h
  rw [← Lib.mk_data s, ← Lib.mk_data t, h]
theorem eqM_len {l l' : List Mono} (h : l.length ≠ l'.length) : eqM l l' = false := by
  unfold eqM
  exact decide_eq_false fun e => h (by rw [e])

/-- An element of such a slice, met in a later world. -/
theorem MonosAt.elem {w wr : World} {v : Value} {l : List Mono} (h : MonosAt w v l) (hU : Up w wr) (k : Nat) (hk : k < l.length) {n : Nat} (hn : l.length = n) {a : Option Addr} {cap : Nat} (hv : v = .slice a n cap) :
    ∃ bl off s b, a = some ⟨bl, off, none⟩ ∧ bl < w.heap.size ∧ l.getD k m0 = (s, b) ∧ wr.cell? ⟨bl, off + k * 2, none⟩ = some (.string s) ∧ wr.cell? ⟨bl, off + k * 2 + 1, none⟩ = some (.int .i64 b) := by
  subst hn
  obtain ⟨⟨a', cap', hv', h0, hc⟩, hmax⟩ := h
  rw [hv'] at hv
  simp only [Value.slice.injEq] at hv
  obtain ⟨rfl, -, rfl⟩ := hv
  clear hv'
  cases a' with
  | none => exact absurd (h0 rfl) (by omega)
  | some x =>
    obtain ⟨g1, g2, g3⟩ := hc x rfl (by omega)
    obtain ⟨bl, off, sp⟩ := x
    have g1' : sp = none := g1
    subst g1'
    have g2' : bl < w.heap.size := g2
    have g4 : ∀ i j, i < l.length → j < 2 → wr.cell? ⟨bl, off + i * 2 + j, none⟩ = some (monoF l i j) := fun i j hi hj => (hU.cell _ _ g2').trans (g3 i j hi hj)
    obtain ⟨s, b, hm⟩ : ∃ s b, l.getD k m0 = (s, b) := ⟨_, _, rfl⟩
    obtain ⟨c0, c1⟩ := mono_at l.length g4 hk hm
    exact ⟨bl, off, s, b, rfl, g2', hm, c0, c1⟩
theorem MonosAt.slice {w : World} {v : Value} {l : List Mono} (h : MonosAt w v l) : ∃ a cap, v = .slice a l.length cap := by
  obtain ⟨⟨a, cap, hv, _, _⟩, _⟩ := h
  exact ⟨a, cap, hv⟩
theorem MonosAt.up {w w' : World} {v : Value} {l : List Mono} (h : MonosAt w v l) (u : Up w w') : MonosAt w' v l := SlAt.up h u

set_option maxHeartbeats 2000000 in
theorem slices_EqualM (v v' : Value) (l l' : List Mono) (w : World) (hv : MonosAt w v l) (hv' : MonosAt w v' l') :
    Calls Try.prog 41 #[v, v'] w fun e w' => e = .returned (.bool (eqM l l')) ∧ Up w w' := by
  have hmax := hv.max
  have hmax' := hv'.max
  obtain ⟨r, hr⟩ : ∃ r, eqM l l' = r := ⟨_, rfl⟩
  rw [hr]
  obtain ⟨a, cap, rfl⟩ := hv.slice
  obtain ⟨a', cap', rfl⟩ := hv'.slice
  obtain ⟨n, hn⟩ : ∃ n, l.length = n := ⟨_, rfl⟩
  obtain ⟨n', hn'⟩ : ∃ n, l'.length = n := ⟨_, rfl⟩
  rw [hn] at hv hmax ⊢
  rw [hn'] at hv' hmax' ⊢
  have HV := Lib.hid hv
  have HV' := Lib.hid hv'
  have HN := Lib.hid hn
  have HN' := Lib.hid hn'
  have HR := Lib.hid hr
  clear hr hn hv hv' hn'
  by_cases hnn : n = n'
  · subst hnn
    go_enter Try.func41, Try.ntmps41
    go_wp2
    go_loopw [13] (fun i wr => ∃ k : Nat, k ≤ n ∧ i = .int .i64 k ∧ Up w wr ∧ eqM (l.drop k) (l'.drop k) = r) (fun i _ => n - (intOf i).toNat)
    case atStart => exact ⟨0, by omega, rfl, Up.refl _, by rw [List.drop_zero, List.drop_zero]; exact HR.out⟩
    case round =>
      rename_i wr
      obtain ⟨k, hk, rfl, hU, hP⟩ := hrel
      have HP := Lib.hid hP
      clear hP
      by_cases hlt : k < n
      · have hlt2 : (k : Int) < (n : Int) := by omega
        have hk0 : (0 : Int) ≤ (k : Int) := by omega
        obtain ⟨bl, off, s, b, rfl, p1, p2, p3, p4⟩ := HV.out.elem hU k (by rw [HN.out]; exact hlt) HN.out rfl
        obtain ⟨bl', off', s', b', rfl, p1', p2', p3', p4'⟩ := HV'.out.elem hU k (by rw [HN'.out]; exact hlt) HN'.out rfl
        have hs := hU.size
        have q1 : bl < wr.heap.size := by omega
        have q2 : bl' < wr.heap.size := by omega
        have HP2 : Hid ((decide (s = s') && decide (b = b') && eqM (l.drop (k + 1)) (l'.drop (k + 1))) = r) := Lib.hid (by
          rw [← HP.out, drop_mono (by rw [HN.out]; exact hlt) p2, drop_mono (l := l') (by rw [HN'.out]; exact hlt) p2', eqM_cons])
        clear p2 p2' HP
        by_cases hss : s = s'
        · subst hss
          by_cases hbb : b = b'
          · subst hbb
            have HG : Hid (eqM (l.drop (k + 1)) (l'.drop (k + 1)) = r) := Lib.hid (by rw [← HP2.out]; simp)
            go_wp2_with fail
            refine wp_region_ext (by kernel_rfl) (by kernel_rfl) ?_
            repeat (go_big_quiet_step (fail))
            refine wpQuiet_nil ?_
            intro x hx
            go_wp2
            go_roundw
            case rel => exact ⟨k + 1, by omega, by go_num, hU.trans hx, HG.out⟩
            case measure => simp [intOf]; omega
          · have hb2 : (b == b') = false := by simpa using hbb
            have HG : Hid (false = r) := Lib.hid (by rw [← HP2.out]; simp [hbb])
            go_wp2_with fail
            refine wp_region_ext (by kernel_rfl) (by kernel_rfl) ?_
            repeat (go_big_quiet_step (fail))
            refine wpQuiet_nil ?_
            intro x hx
            go_wp2
            go_ret
            exact ⟨ret_bool HG.out, hU.trans hx⟩
        · have hs2 : (s.toList == s'.toList) = false := by simpa using fun e => hss (toList_inj e)
          have HG : Hid (false = r) := Lib.hid (by rw [← HP2.out]; simp [hss])
          go_wp2_with fail
          refine wp_region_ext (by kernel_rfl) (by kernel_rfl) ?_
          repeat (go_big_quiet_step (fail))
          refine wpQuiet_nil ?_
          intro x hx
          go_wp2
          go_ret
          exact ⟨ret_bool HG.out, hU.trans hx⟩
      · have hlt2 : (n : Int) ≤ (k : Int) := by omega
        obtain rfl : r = true := by rw [← HP.out, List.drop_eq_nil_of_le (by rw [HN.out]; omega), List.drop_eq_nil_of_le (by rw [HN'.out]; omega)]; rfl
        go_wp2
        go_ret
        exact ⟨rfl, hU⟩
  · have h1 : ((n : Int) == (n' : Int)) = false := by simpa using (by omega : ¬ (n : Int) = (n' : Int))
    have HG : Hid (false = r) := Lib.hid (by rw [← HR.out, eqM_len (by rw [HN.out, HN'.out]; exact hnn)])
    go_enter Try.func41, Try.ntmps41
    go_wp2
    go_ret
    exact ⟨ret_bool HG.out, Up.refl _⟩
end Go.Proofs.Ytpclbgaaoednnaa
