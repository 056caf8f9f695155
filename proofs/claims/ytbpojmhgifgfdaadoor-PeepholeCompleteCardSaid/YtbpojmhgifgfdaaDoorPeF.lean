/-
  Chapter 50: final, of both sides.
-/
import Derived.Test.YtbpojmhgifgfdaaDoorPeA
namespace Go.Proofs.YtbpojmhgifgfdaaDoor
open Go.ChangeShapes Go.WideShapes Go.ChangeAt Go.RowKit
set_option linter.unusedVariables false
set_option linter.unusedSimpArgs false

theorem finG_step (l : List Ins) (t : Int) (k : Nat) (p : Int) : finG l t (k + 1) p = if p < 0 ∨ (l.length : Int) ≤ p ∨ (l.getD p.toNat i0).1 ≠ 7 then p else finG l t k (l.getD p.toNat i0).2.1 := rfl
theorem finG_zero (l : List Ins) (t : Int) (p : Int) : finG l t 0 p = if 0 ≤ p ∧ p < l.length ∧ (l.getD p.toNat i0).1 = 7 then t else p := rfl

set_option maxHeartbeats 4000000 in
theorem pe_final (v : Value) (l : List Ins) (t : Int) (w : World) (hv : InsAt w v l) :
    Calls Tryd.prog 46 #[v, .int .i64 t] w fun e w' => e = .returned (.int .i64 (finF l t)) ∧ w' = w := by
  obtain ⟨r, hr⟩ : ∃ r, finF l t = r := ⟨_, rfl⟩
  rw [hr]
  have HV := Lib.hid hv
  obtain ⟨⟨a, cap, rfl⟩, hmax⟩ := hv.slice
  obtain ⟨n, hn⟩ : ∃ n, l.length = n := ⟨_, rfl⟩
  rw [hn] at hmax ⊢
  have HN := Lib.hid hn
  have HR : Hid (finG l t n t = r) := Lib.hid (by rw [← hr, finF, hn])
  clear hn hr hv
  have hmI : (n : Int) ≤ 9223372036854775807 := by omega
  go_enter Tryd.func46, Tryd.ntmps46
  go_wp2
  go_loopw [5, 9] (fun pv iv wr => ∃ (k : Nat) (p : Int), k ≤ n ∧ iv = .int .i64 k ∧ pv = .int .i64 p ∧ wr = w ∧ finG l t (n - k) p = r) (fun _ iv _ => n - (intOf iv).toNat)
  case atStart => exact ⟨0, t, by omega, rfl, rfl, rfl, by rw [Nat.sub_zero]; exact HR.out⟩
  case round =>
    obtain ⟨k, p, hk, rfl, rfl, hw, hf⟩ := hrel
    replace hw := hw.symm
    subst hw
    have HF := Lib.hid hf
    clear hf
    by_cases h1 : p < 0
    · have HG : Hid (p = r) := Lib.hid (by
        have := HF.out
        cases hq : n - k with
        | zero => rw [hq, finG_zero, if_neg (by omega)] at this; exact this
        | succ q => rw [hq, finG_step, if_pos (by omega)] at this; exact this)
      by_cases hlt : k < n
      · have hltI : (k : Int) < n := by omega
        go_wp2
        go_ret
        exact ⟨ret_int HG.out, rfl⟩
      · have hltI : (n : Int) ≤ k := by omega
        go_wp2
        go_ret
        exact ⟨ret_int HG.out, rfl⟩
    · have h1' : 0 ≤ p := by omega
      by_cases h2 : (n : Int) ≤ p
      · have HG : Hid (p = r) := Lib.hid (by
          have := HF.out
          cases hq : n - k with
          | zero => rw [hq, finG_zero, HN.out, if_neg (by omega)] at this; exact this
          | succ q => rw [hq, finG_step, HN.out, if_pos (by omega)] at this; exact this)
        by_cases hlt : k < n
        · have hltI : (k : Int) < n := by omega
          go_wp2
          go_ret
          exact ⟨ret_int HG.out, rfl⟩
        · have hltI : (n : Int) ≤ k := by omega
          go_wp2
          go_ret
          exact ⟨ret_int HG.out, rfl⟩
      · obtain ⟨m, rfl⟩ : ∃ m : Nat, p = m := ⟨p.toNat, by omega⟩
        obtain ⟨x, hx⟩ : ∃ x, l.getD m i0 = x := ⟨_, rfl⟩
        obtain ⟨bl, off, ha, hbl, ⟨k0, k1, -⟩, hxr⟩ := HV.out.elem (Up.refl w) m (by rw [HN.out]; omega) HN.out (by rw [HN.out]) hx
        subst ha
        have h2' : (m : Int) < n := by omega
        have HF2 := HF.out
        have HX := Lib.hid hx
        clear hx
        obtain ⟨op, A, rest⟩ := x
        by_cases h7 : op = 7
        · subst h7
          by_cases hlt : k < n
          · have hltI : (k : Int) < n := by omega
            have HG : Hid (finG l t (n - (k + 1)) A = r) := Lib.hid (by
              rw [show n - k = (n - (k + 1)) + 1 by omega, finG_step, HN.out, Int.toNat_natCast, HX.out, if_neg (by simp; omega)] at HF2
              exact HF2)
            clear HF2
            go_wp2
            go_roundw
            case rel => exact ⟨k + 1, A, by omega, by go_num, rfl, by trivial, HG.out⟩
            case measure => simp [intOf]; omega
          · have hltI : (n : Int) ≤ k := by omega
            have HG : Hid (t = r) := Lib.hid (by
              rw [show n - k = 0 by omega, finG_zero, HN.out, Int.toNat_natCast, HX.out, if_pos (by simp; omega)] at HF2
              exact HF2)
            clear HF2
            go_wp2
            go_ret
            exact ⟨ret_int HG.out, rfl⟩
        · have HG : Hid ((m : Int) = r) := Lib.hid (by
            cases hq : n - k with
            | zero => rw [hq, finG_zero, HN.out, Int.toNat_natCast, HX.out, if_neg (by simp; omega)] at HF2; exact HF2
            | succ q => rw [hq, finG_step, HN.out, Int.toNat_natCast, HX.out, if_pos (by simp; omega)] at HF2; exact HF2)
          clear HF2
          by_cases hlt : k < n
          · have hltI : (k : Int) < n := by omega
            go_wp2
            go_ret
            exact ⟨ret_int HG.out, rfl⟩
          · have hltI : (n : Int) ≤ k := by omega
            go_wp2
            go_ret
            exact ⟨ret_int HG.out, rfl⟩

set_option maxHeartbeats 4000000 in
theorem r50_final (v : Value) (l : List Ins) (t : Int) (w : World) (hv : InsAt w v l) (hval : ∀ x ∈ l, x.1 = 7 → 0 ≤ x.2.1 ∧ x.2.1 < l.length) (ht : 0 ≤ t ∧ t < l.length) (hlen : l.length ≤ 100000) :
    Calls Tryd.prog 32 #[v, .int .i64 t] w fun e w' => e = .returned (.int .i64 (finF l t)) ∧ w' = w := by
  obtain ⟨r, hr⟩ : ∃ r, finF l t = r := ⟨_, rfl⟩
  rw [hr]
  have HV := Lib.hid hv
  obtain ⟨⟨a, cap, rfl⟩, hmax⟩ := hv.slice
  obtain ⟨n, hn⟩ : ∃ n, l.length = n := ⟨_, rfl⟩
  rw [hn] at hmax ht hval hlen ⊢
  have HN := Lib.hid hn
  have HVA := Lib.hid hval
  have HR : Hid (finG l t n t = r) := Lib.hid (by rw [← hr, finF, hn])
  clear hn hr hv hval
  have hmI : (n : Int) ≤ 100000 := by omega
  go_enter Tryd.func32, Tryd.ntmps32
  go_wp2
  go_loopw [5, 6] (fun pv iv wr => ∃ (k : Nat) (p : Int), k ≤ n + 1 ∧ iv = .int .i64 k ∧ pv = .int .i64 p ∧ wr = w ∧ 0 ≤ p ∧ p < n ∧ ((k ≤ n ∧ finG l t (n - k) p = r) ∨ (k = n + 1 ∧ t = r))) (fun _ iv _ => n + 1 - (intOf iv).toNat)
  case atStart => exact ⟨0, t, by omega, rfl, rfl, rfl, ht.1, ht.2, .inl ⟨by omega, by rw [Nat.sub_zero]; exact HR.out⟩⟩
  case round =>
    obtain ⟨k, p, hk, rfl, rfl, hw, hp0, hpn, hf⟩ := hrel
    replace hw := hw.symm
    subst hw
    have HF := Lib.hid hf
    clear hf
    by_cases hlt : k ≤ n
    · have hltI : (k : Int) ≤ n := by omega
      have HF2 : finG l t (n - k) p = r := by
        rcases HF.out with h | h
        · exact h.2
        · omega
      obtain ⟨m, rfl⟩ : ∃ m : Nat, p = m := ⟨p.toNat, by omega⟩
      obtain ⟨x, hx⟩ : ∃ x, l.getD m i0 = x := ⟨_, rfl⟩
      obtain ⟨bl, off, ha, hbl, ⟨k0, k1, -⟩, hxr⟩ := HV.out.elem (Up.refl w) m (by rw [HN.out]; omega) HN.out (by rw [HN.out]) hx
      subst ha
      have hmem : x ∈ l := by
        have hml : m < l.length := by rw [HN.out]; omega
        rw [List.getD_eq_getElem?_getD, List.getElem?_eq_getElem hml] at hx
        exact hx ▸ List.getElem_mem hml
      have HX := Lib.hid hx
      have hT := HVA.out _ hmem
      clear hx hmem
      obtain ⟨op, A, rest⟩ := x
      by_cases h7 : op = 7
      · subst h7
        have hT2 := hT rfl
        have hT3 : 0 ≤ A ∧ A < n := hT2
        clear hT hT2
        have HG : Hid ((k + 1 ≤ n ∧ finG l t (n - (k + 1)) A = r) ∨ (k + 1 = n + 1 ∧ t = r)) := Lib.hid (by
          by_cases hk2 : k < n
          · rw [show n - k = (n - (k + 1)) + 1 by omega, finG_step, HN.out, Int.toNat_natCast, HX.out, if_neg (by simp; omega)] at HF2
            exact .inl ⟨by omega, HF2⟩
          · rw [show n - k = 0 by omega, finG_zero, HN.out, Int.toNat_natCast, HX.out, if_pos (by simp; omega)] at HF2
            exact .inr ⟨by omega, HF2⟩)
        clear HF2
        go_wp2
        go_roundw
        case rel => exact ⟨k + 1, A, by omega, by go_num, rfl, by trivial, hT3.1, hT3.2, HG.out⟩
        case measure => simp [intOf]; omega
      · have HG : Hid ((m : Int) = r) := Lib.hid (by
          cases hq : n - k with
          | zero => rw [hq, finG_zero, HN.out, Int.toNat_natCast, HX.out, if_neg (by simp; omega)] at HF2; exact HF2
          | succ q => rw [hq, finG_step, HN.out, Int.toNat_natCast, HX.out, if_pos (by simp; omega)] at HF2; exact HF2)
        clear HF2 hT
        go_wp2
        go_ret
        exact ⟨ret_int HG.out, rfl⟩
    · have hltI : (n : Int) < k := by omega
      have HG : Hid (t = r) := Lib.hid (by
        rcases HF.out with h | h
        · omega
        · exact h.2)
      go_wp2
      go_ret
      exact ⟨ret_int HG.out, rfl⟩
end Go.Proofs.YtbpojmhgifgfdaaDoor
