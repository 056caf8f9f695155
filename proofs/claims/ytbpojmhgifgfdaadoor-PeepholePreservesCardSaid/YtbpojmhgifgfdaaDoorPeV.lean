/-
  Merged by a program (tools/mrg.py): PeU, PeV.
-/
import Derived.Test.YtbpojmhgifgfdaaDoorPeS
import Derived.Test.YtbpojmhgifgfdaaDoorRows
import Derived.Test.YtbpojmhgifgfdaaDoorM

section
namespace Go.Proofs.YtbpojmhgifgfdaaDoor
open Go.ChangeShapes Go.WideShapes Go.ChangeAt Go.RowKit
set_option linter.unusedVariables false
set_option linter.unusedSimpArgs false
set_option maxRecDepth 100000

theorem drop_bool {l : List Bool} {k n : Nat} {x : Bool} (hn : l.length = n) (hk : k < n) (hx : l.getD k false = x) : l.drop k = x :: l.drop (k + 1) := by
  subst hn
  rw [List.drop_eq_getElem_cons hk, ← hx, List.getD_eq_getElem?_getD, List.getElem?_eq_getElem hk]; rfl
theorem drop_int {l : List Int} {k n : Nat} {x : Int} (hn : l.length = n) (hk : k < n) (hx : l.getD k 0 = x) : l.drop k = x :: l.drop (k + 1) := by
  subst hn
  rw [List.drop_eq_getElem_cons hk, ← hx, List.getD_eq_getElem?_getD, List.getElem?_eq_getElem hk]; rfl
theorem unF_cons (b : Bool) (r : List Bool) (k : Int) : unF (b :: r) k = (if b then [] else [k]) ++ unF r (k + 1) := rfl
theorem int_snoc (ys : List Int) (x : Int) : intV ys ++ flat (fun j _ => Value.int .i64 (([x] : List Int).getD j 0)) 1 1 = intV (ys ++ [x]) := by
  rw [show flat (fun j _ => Value.int .i64 (([x] : List Int).getD j 0)) 1 1 = intV [x] from intV_flat [x], intV_app]


set_option maxHeartbeats 8000000 in
theorem pe_Unreachable (v : Value) (l : List Ins) (w : World) (hv : InsAt w v l) (hlen : l.length ≤ 100000) :
    Calls Tryd.prog 10 #[v] w fun e w' => ∃ v', e = .returned v' ∧ Up w w' ∧ IntsAt w' v' (unreachF l) := by
  obtain ⟨ii, hii, iz0, iz1, iz2⟩ := info_parts int_info
  obtain ⟨r, hr⟩ : ∃ r, unreachF l = r := ⟨_, rfl⟩
  rw [hr]
  have HV := Lib.hid hv
  obtain ⟨⟨a, cap, rfl⟩, hmax⟩ := hv.slice
  obtain ⟨n, hn⟩ : ∃ n, l.length = n := ⟨_, rfl⟩
  rw [hn] at hmax hlen ⊢
  obtain ⟨rs, hrs⟩ : ∃ rs, reachF l = rs := ⟨_, rfl⟩
  have HR : Hid (unF rs 0 = r) := Lib.hid (by rw [← hr, unreachF, hrs])
  have HC : Hid (Calls Tryd.prog 24 #[.slice a n cap] w fun e w' => ∃ v', e = .returned v' ∧ Up w w' ∧ BoolsAt w' v' rs ∧ rs.length = n) := Lib.hid (by
    have := pe_reachable _ l w HV.out (by omega)
    rw [hrs, hn] at this; exact this)
  obtain ⟨B, hB⟩ : ∃ B, w.heap.size = B := ⟨_, rfl⟩
  have HB := Lib.hid hB
  clear hn hr hv hB hrs HV
  have hmI : (n : Int) ≤ 100000 := by omega
  go_enter Tryd.func10, Tryd.ntmps10
  go_wp2_with (go_at_call 24; refine HC.out.mono ?_; rintro e x ⟨sv, rfl, hx, hbs, hlr⟩; have HX := Lib.hid hx; have HBS := Lib.hid hbs; have HLR := Lib.hid hlr; obtain ⟨⟨sa, sc, rfl⟩, hsm⟩ := hbs.slice; rw [hlr] at hsm ⊢; clear hx hbs hlr)
  go_loopw [3, 9] (fun ov kv wr => ∃ (k m : Nat) (ys : List Int), k ≤ n ∧ m ≤ k ∧ kv = .int .i64 k ∧ ys.length = m ∧ wr.ownsRow x.heap.size 3 1 ov m (intV ys) ∧ ys ++ unF (rs.drop k) k = r ∧ Up x wr) (fun _ kv _ => n - (intOf kv).toNat)
  case atStart => exact ⟨0, 0, [], by omega, by omega, rfl, rfl, World.ownsRow_nil _ _ _ _, by rw [List.drop_zero]; exact HR.out, Up.refl _⟩
  case round =>
    rename World => wr
    obtain ⟨k, m, ys, hk, hmk, rfl, hm, hown, hf, hU⟩ := hrel
    obtain ⟨va, vc, rfl⟩ := own_slice hown
    have HOWN := Lib.hid hown
    have HU := Lib.hid hU
    have HM := Lib.hid hm
    clear hown hU hm
    by_cases hlt : k < n
    · have hltI : (k : Int) < n := by omega
      obtain ⟨b, hb⟩ : ∃ b, rs.getD k false = b := ⟨_, rfl⟩
      obtain ⟨bl, off, ha, hbl, k0⟩ := HBS.out.elem HU.out k (by rw [HLR.out]; exact hlt) HLR.out (by rw [HLR.out])
      subst ha
      rw [hb] at k0
      have hd := drop_bool HLR.out hlt hb
      rw [hd, unF_cons] at hf
      have HF := Lib.hid hf
      clear hf hd hb
      cases b
      · have HG : Hid ((ys ++ [(k : Int)]) ++ unF (rs.drop (k + 1)) ((k : Int) + 1) = r) := Lib.hid (by have := HF.out; rw [← this, List.append_assoc]; rfl)
        go_wp2_with (at_builtin; refine wpList_append_sl _ rfl _ _ 25 rfl x.heap.size 3 ii _ 1 8 Tryd.underlying25 hii iz0 iz1 iz2 rfl (by decide) (.slice va m vc) m _ rfl (own_up' HOWN.out ((Up.refl wr).alloc _)) (.slice (some ⟨wr.heap.size, 0, none⟩) 1 1) 1 _ rfl (IntsAt.one' wr 3 k rfl) (fun i j _ _ => rfl) (by unfold maxLen; omega) (by omega) (by have := HU.out.size; simp at *; omega) ?_; intro v2 w1 hown1 hg1 hat1 hnil1; obtain ⟨vb, vd, rfl⟩ := own_slice hown1; have HO1 := Lib.hid hown1; have HG1 := Lib.hid hg1; clear hown1 hg1 hat1 hnil1)
        have HUN2 : Hid (Up x w1) := Lib.hid ((HU.out.alloc (.cells #[.int .i64 k] 3)).grown HG1.out fun g hg => own_base HOWN.out g hg)
        have HON := Lib.hid (int_snoc ys k ▸ HO1.out)
        go_roundw
        case rel => exact ⟨k + 1, m + 1, ys ++ [(k : Int)], by omega, by omega, by go_num, by rw [List.length_append, HM.out]; rfl, HON.out, HG.out, HUN2.out⟩
        case measure => simp [intOf]; omega
      · have HG : Hid (ys ++ unF (rs.drop (k + 1)) ((k : Int) + 1) = r) := Lib.hid HF.out
        go_wp2
        go_roundw
        case rel => exact ⟨k + 1, m, ys, by omega, by omega, by go_num, HM.out, HOWN.out, HG.out, HU.out⟩
        case measure => simp [intOf]; omega
    · obtain rfl : k = n := by omega
      have HG : Hid (r = ys) := Lib.hid (by rw [← hf, List.drop_eq_nil_of_le (by rw [HLR.out]; omega)]; simp [unF])
      clear hf
      go_wp2
      go_ret
      exact ret_v ⟨HX.out.trans HU.out, HG.out ▸ IntsAt.own HOWN.out HM.out (by omega)⟩


set_option maxHeartbeats 8000000 in
theorem r50_Unreachable (v : Value) (l : List Ins) (w : World) (hv : InsAt w v l) (hlen : l.length ≤ 100000) :
    Calls Tryd.prog 11 #[v] w fun e w' => ∃ v', e = .returned v' ∧ Up w w' ∧ IntsAt w' v' (unreachF l) := by
  obtain ⟨ii, hii, iz0, iz1, iz2⟩ := info_parts int_info
  obtain ⟨r, hr⟩ : ∃ r, unreachF l = r := ⟨_, rfl⟩
  rw [hr]
  have HV := Lib.hid hv
  obtain ⟨⟨a, cap, rfl⟩, hmax⟩ := hv.slice
  obtain ⟨n, hn⟩ : ∃ n, l.length = n := ⟨_, rfl⟩
  rw [hn] at hmax hlen ⊢
  obtain ⟨rs, hrs⟩ : ∃ rs, reachF l = rs := ⟨_, rfl⟩
  have HR : Hid (unF rs 0 = r) := Lib.hid (by rw [← hr, unreachF, hrs])
  have HC : Hid (Calls Tryd.prog 25 #[.slice a n cap] w fun e w' => ∃ v', e = .returned v' ∧ Up w w' ∧ BoolsAt w' v' rs ∧ rs.length = n) := Lib.hid (by
    have := r50_reachable _ l w HV.out (by omega)
    rw [hrs, hn] at this; exact this)
  obtain ⟨B, hB⟩ : ∃ B, w.heap.size = B := ⟨_, rfl⟩
  have HB := Lib.hid hB
  clear hn hr hv hB hrs HV
  have hmI : (n : Int) ≤ 100000 := by omega
  go_enter Tryd.func11, Tryd.ntmps11
  go_wp2_with (go_at_call 25; refine HC.out.mono ?_; rintro e x ⟨sv, rfl, hx, hbs, hlr⟩; have HX := Lib.hid hx; have HBS := Lib.hid hbs; have HLR := Lib.hid hlr; obtain ⟨⟨sa, sc, rfl⟩, hsm⟩ := hbs.slice; rw [hlr] at hsm ⊢; clear hx hbs hlr)
  go_loopw [3, 5] (fun ov kv wr => ∃ (k m : Nat) (ys : List Int), k ≤ n ∧ m ≤ k ∧ kv = .int .i64 k ∧ ys.length = m ∧ wr.ownsRow x.heap.size 3 1 ov m (intV ys) ∧ ys ++ unF (rs.drop k) k = r ∧ Up x wr) (fun _ kv _ => n - (intOf kv).toNat)
  case atStart => exact ⟨0, 0, [], by omega, by omega, rfl, rfl, World.ownsRow_nil _ _ _ _, by rw [List.drop_zero]; exact HR.out, Up.refl _⟩
  case round =>
    rename World => wr
    obtain ⟨k, m, ys, hk, hmk, rfl, hm, hown, hf, hU⟩ := hrel
    obtain ⟨va, vc, rfl⟩ := own_slice hown
    have HOWN := Lib.hid hown
    have HU := Lib.hid hU
    have HM := Lib.hid hm
    clear hown hU hm
    by_cases hlt : k < n
    · have hltI : (k : Int) < n := by omega
      obtain ⟨b, hb⟩ : ∃ b, rs.getD k false = b := ⟨_, rfl⟩
      obtain ⟨bl, off, ha, hbl, k0⟩ := HBS.out.elem HU.out k (by rw [HLR.out]; exact hlt) HLR.out (by rw [HLR.out])
      subst ha
      rw [hb] at k0
      have hd := drop_bool HLR.out hlt hb
      rw [hd, unF_cons] at hf
      have HF := Lib.hid hf
      clear hf hd hb
      cases b
      · have HG : Hid ((ys ++ [(k : Int)]) ++ unF (rs.drop (k + 1)) ((k : Int) + 1) = r) := Lib.hid (by have := HF.out; rw [← this, List.append_assoc]; rfl)
        go_wp2_with (at_builtin; refine wpList_append_sl _ rfl _ _ 25 rfl x.heap.size 3 ii _ 1 8 Tryd.underlying25 hii iz0 iz1 iz2 rfl (by decide) (.slice va m vc) m _ rfl (own_up' HOWN.out ((Up.refl wr).alloc _)) (.slice (some ⟨wr.heap.size, 0, none⟩) 1 1) 1 _ rfl (IntsAt.one' wr 3 k rfl) (fun i j _ _ => rfl) (by unfold maxLen; omega) (by omega) (by have := HU.out.size; simp at *; omega) ?_; intro v2 w1 hown1 hg1 hat1 hnil1; obtain ⟨vb, vd, rfl⟩ := own_slice hown1; have HO1 := Lib.hid hown1; have HG1 := Lib.hid hg1; clear hown1 hg1 hat1 hnil1)
        have HUN2 : Hid (Up x w1) := Lib.hid ((HU.out.alloc (.cells #[.int .i64 k] 3)).grown HG1.out fun g hg => own_base HOWN.out g hg)
        have HON := Lib.hid (int_snoc ys k ▸ HO1.out)
        go_roundw
        case rel => exact ⟨k + 1, m + 1, ys ++ [(k : Int)], by omega, by omega, by go_num, by rw [List.length_append, HM.out]; rfl, HON.out, HG.out, HUN2.out⟩
        case measure => simp [intOf]; omega
      · have HG : Hid (ys ++ unF (rs.drop (k + 1)) ((k : Int) + 1) = r) := Lib.hid HF.out
        go_wp2
        go_roundw
        case rel => exact ⟨k + 1, m, ys, by omega, by omega, by go_num, HM.out, HOWN.out, HG.out, HU.out⟩
        case measure => simp [intOf]; omega
    · obtain rfl : k = n := by omega
      have HG : Hid (r = ys) := Lib.hid (by rw [← hf, List.drop_eq_nil_of_le (by rw [HLR.out]; omega)]; simp [unF])
      clear hf
      go_wp2
      go_ret
      exact ret_v ⟨HX.out.trans HU.out, HG.out ▸ IntsAt.own HOWN.out HM.out (by omega)⟩


set_option maxHeartbeats 4000000 in
theorem base_Ints (va vb : Value) (la lb : List Int) (w : World) (ha : IntsAt w va la) (hb : IntsAt w vb lb) :
    Calls Tryd.prog 9 #[va, vb] w fun e w' => e = .returned (.bool (decide (la = lb))) ∧ Up w w' := by
  obtain ⟨r, hr⟩ : ∃ r, decide (la = lb) = r := ⟨_, rfl⟩
  rw [hr]
  have HA := Lib.hid ha
  have HB := Lib.hid hb
  obtain ⟨⟨a, cap, rfl⟩, hmax⟩ := ha.slice
  obtain ⟨⟨b, cap2, rfl⟩, hmax2⟩ := hb.slice
  obtain ⟨n, hn⟩ : ∃ n, la.length = n := ⟨_, rfl⟩
  obtain ⟨n2, hn2⟩ : ∃ n, lb.length = n := ⟨_, rfl⟩
  rw [hn, hn2]
  rw [hn] at hmax
  rw [hn2] at hmax2
  have HN := Lib.hid hn
  have HN2 := Lib.hid hn2
  have HR := Lib.hid hr
  clear hn hn2 hr ha hb
  have hmI : (n : Int) ≤ 9223372036854775807 := by omega
  have hmI2 : (n2 : Int) ≤ 9223372036854775807 := by omega
  by_cases hne : n = n2
  · subst hne
    go_enter Tryd.func9, Tryd.ntmps9
    go_wp2
    go_loopw [5] (fun iv wr => ∃ (k : Nat), k ≤ n ∧ iv = .int .i64 k ∧ decide (la.drop k = lb.drop k) = r ∧ Up w wr) (fun iv _ => n - (intOf iv).toNat)
    case atStart => exact ⟨0, by omega, rfl, by rw [List.drop_zero, List.drop_zero]; exact HR.out, Up.refl w⟩
    case round =>
      rename World => wr
      obtain ⟨k, hk, rfl, hf, hU⟩ := hrel
      have HU := Lib.hid hU
      have HF := Lib.hid hf
      clear hf hU
      by_cases hlt : k < n
      · have hltI : (k : Int) < n := by omega
        obtain ⟨x, hx⟩ : ∃ x, la.getD k 0 = x := ⟨_, rfl⟩
        obtain ⟨y, hy⟩ : ∃ y, lb.getD k 0 = y := ⟨_, rfl⟩
        obtain ⟨bl, off, hA, hbl, k0⟩ := HA.out.elem HU.out k (by rw [HN.out]; exact hlt) HN.out (by rw [HN.out])
        obtain ⟨bl2, off2, hB, hbl2, k2⟩ := HB.out.elem HU.out k (by rw [HN2.out]; exact hlt) HN2.out (by rw [HN2.out])
        subst hA hB
        rw [hx] at k0
        rw [hy] at k2
        have hb1 : bl < wr.heap.size := Nat.lt_of_lt_of_le hbl HU.out.size
        have hb2 : bl2 < wr.heap.size := Nat.lt_of_lt_of_le hbl2 HU.out.size
        have HG : Hid (decide (x = y ∧ la.drop (k + 1) = lb.drop (k + 1)) = r) := Lib.hid (by
          have := HF.out
          rw [drop_int HN.out hlt hx, drop_int HN2.out hlt hy] at this
          rw [← this]; simp)
        clear hx hy HF
        go_wp2_with fail
        refine wp_region_ext (by kernel_rfl) (by kernel_rfl) ?_
        repeat (go_big_quiet_step (fail))
        refine wpQuiet_nil ?_
        intro x5 hx5
        have HU5 := Lib.hid (HU.out.trans hx5)
        clear hx5
        by_cases hxy : x = y
        · subst hxy
          have HG2 : Hid (decide (la.drop (k + 1) = lb.drop (k + 1)) = r) := Lib.hid (by rw [← HG.out]; simp)
          go_wp2
          go_roundw
          case rel => exact ⟨k + 1, by omega, by go_num, HG2.out, HU5.out⟩
          case measure => simp [intOf]; omega
        · have hxb : (x == y) = false := by simpa using hxy
          have hxb2 : (x != y) = true := by simpa using hxy
          have HG2 : Hid (false = r) := Lib.hid (by rw [← HG.out]; simp [hxy])
          go_wp2
          go_ret
          exact ⟨ret_bool HG2.out, HU5.out⟩
      · obtain rfl : k = n := by omega
        have HG : Hid (true = r) := Lib.hid (by rw [← HF.out, List.drop_eq_nil_of_le (by rw [HN.out]; omega), List.drop_eq_nil_of_le (by rw [HN2.out]; omega)]; simp)
        go_wp2
        go_ret
        exact ⟨ret_bool HG.out, HU.out⟩
  · have hneI : ¬ (n : Int) = (n2 : Int) := by omega
    have hnb : ((n : Int) == n2) = false := by simpa using hneI
    have hnb2 : ((n : Int) != n2) = true := by simpa using hneI
    have HG : Hid (false = r) := Lib.hid (by
      rw [← HR.out]
      symm
      rw [decide_eq_false_iff_not]
      rintro rfl
      exact hne (HN.out.symm.trans HN2.out))
    go_enter Tryd.func9, Tryd.ntmps9
    go_wp2
    go_ret
    exact ⟨ret_bool HG.out, Up.refl w⟩

end Go.Proofs.YtbpojmhgifgfdaaDoor
end

section
namespace Go.Proofs.YtbpojmhgifgfdaaDoor
open Go.ChangeShapes Go.WideShapes Go.ChangeAt Go.RowKit

theorem frac_gcd (a b : Int) (ha : 0 ≤ a) (ha' : a < 18446744073709551616) (hb : 0 ≤ b) (hb' : b < 18446744073709551616) (w : World) :
    Calls Tryd.prog 91 #[.int .u64 a, .int .u64 b] w fun e w' => e = .returned (.int .u64 (Int.gcd a b)) ∧ Up w w' := by
  go_enter Tryd.func91, Tryd.ntmps91
  go_wp2
  go_loopw [0, 1] (fun x y wr => ∃ a' b' : Int, 0 ≤ a' ∧ a' < 18446744073709551616 ∧ 0 ≤ b' ∧ b' < 18446744073709551616 ∧ x = .int .u64 a' ∧ y = .int .u64 b' ∧ Int.gcd a' b' = Int.gcd a b ∧ Up w wr) (fun _ y _ => (intOf y).toNat)
  case atStart => exact ⟨a, b, ha, ha', hb, hb', rfl, rfl, rfl, Up.refl _⟩
  case round =>
    rename_i wr
    obtain ⟨a', b', h1, h2, h3, h4, rfl, rfl, hg, hB⟩ := hrel
    have HG := Lib.hid hg
    clear hg
    by_cases h0 : b' = 0
    · subst h0
      go_wp2
      go_ret
      exact ⟨ret_int (by rw [← HG.out]; simp; omega), hB⟩
    · have h5 : 0 < b' := by omega
      have h6 : (b' == 0) = false := by simp [h0]
      have h7 : (b' != 0) = true := by simp [h0]
      go_wp2
      go_quiet (fail)
      go_wp2
      go_roundw
      case rel => exact ⟨b', a' % b', h3, h4, Int.emod_nonneg _ h0, by have := Int.emod_lt_of_pos a' h5; omega, rfl, rfl, by rw [gcd_step _ _ h1 h3]; exact HG.out, hB.drewN _⟩
      case measure =>
        have := Int.emod_lt_of_pos a' h5
        simp [intOf]; omega

theorem frac_gcd' (a b g : Int) (hg : (Int.gcd a b : Int) = g) (ha : 0 ≤ a) (ha' : a < 18446744073709551616) (hb : 0 ≤ b) (hb' : b < 18446744073709551616) (w : World) :
    Calls Tryd.prog 91 #[.int .u64 a, .int .u64 b] w fun e w' => e = .returned (.int .u64 g) ∧ Up w w' := by
  rw [← hg]; exact frac_gcd a b ha ha' hb hb' w

theorem frac_magnitude (n : Int) (h1 : -9223372036854775808 ≤ n) (h2 : n ≤ 9223372036854775807) (w : World) :
    Calls Tryd.prog 92 #[.int .i64 n] w fun e w' => e = .returned (.int .u64 (mag n)) ∧ Up w w' := by
  by_cases h : n < 0
  · go_enter Tryd.func92, Tryd.ntmps92
    go_wp2
    go_ret
    refine ⟨ret_int ?_, Up.refl _⟩
    rw [mag, if_pos h]
    exact wrap_u64_neg n h1 h
  · go_enter Tryd.func92, Tryd.ntmps92
    go_wp2
    go_ret
    refine ⟨ret_int ?_, Up.refl _⟩
    rw [mag, if_neg (by omega)]

def inR (n : Int) : Bool := decide (-2147483647 ≤ n ∧ n ≤ 2147483647)

theorem frac_inRange (n : Int) (r : Bool) (hr : inR n = r) (w : World) :
    Calls Tryd.prog 90 #[.int .i64 n] w fun e w' => e = .returned (.bool r) ∧ Up w w' := by
  subst hr
  go_enter Tryd.func90, Tryd.ntmps90
  go_wp2
  all_goals
    go_ret
    exact ⟨ret_bool (by simp [inR]; omega), Up.refl _⟩

def validF (n d : Int) : Bool := decide (1 ≤ d ∧ d ≤ 2147483647 ∧ -2147483647 ≤ n ∧ n ≤ 2147483647 ∧ Int.gcd n d = 1)

theorem frac_Valid (n d : Int) (r : Bool) (hr : validF n d = r) (w1 : -9223372036854775808 ≤ n) (w2 : n ≤ 9223372036854775807) (w : World) :
    Calls Tryd.prog 86 #[.agg #[.int .i64 n, .int .i64 d]] w fun e w' => e = .returned (.bool r) ∧ Up w w' := by
  have HR := Lib.hid hr
  clear hr
  by_cases h1 : 1 ≤ d
  · by_cases h2 : d ≤ 2147483647
    · by_cases h3 : -2147483647 ≤ n ∧ n ≤ 2147483647
      · have hr : Hid (inR n = true) := by simpa [Hid, inR] using h3
        have hm := mag_nonneg n
        have hm2 : mag n < 18446744073709551616 := by unfold mag; split <;> omega
        go_enter Tryd.func86, Tryd.ntmps86
        go_wp2
        refine wp_region_ext (by kernel_rfl) (by kernel_rfl) ?_
        repeat (go_big_quiet_step (first | (go_at_call 90; exact Calls.ext_of (frac_inRange _ true hr.out _)) | (go_at_call 92; exact Calls.ext_of (frac_magnitude _ (by omega) (by omega) _)) | (go_at_call 91; exact Calls.ext_of (frac_gcd _ _ (by omega) (by omega) (by omega) (by omega) _))))
        refine wpQuiet_nil ?_
        intro x hx
        go_wp2
        go_ret
        refine ⟨ret_bool ?_, ((Up.refl _).alloc _).trans hx⟩
        rw [← HR.out, gcd_mag_left]
        simp [validF, h1, h2, h3]
        rw [Bool.eq_iff_iff]; simp; omega
      · have hr : Hid (inR n = false) := by simp [Hid, inR]; omega
        go_enter Tryd.func86, Tryd.ntmps86
        go_wp2
        refine wp_region_ext (by kernel_rfl) (by kernel_rfl) ?_
        repeat (go_big_quiet_step (first | (go_at_call 90; exact Calls.ext_of (frac_inRange _ false hr.out _))))
        refine wpQuiet_nil ?_
        intro x hx
        go_wp2
        go_ret
        exact ⟨ret_bool (by rw [← HR.out]; simp [validF]; omega), ((Up.refl _).alloc _).trans hx⟩
    · have hd : decide (d ≤ 2147483647) = false := by simpa using h2
      go_enter Tryd.func86, Tryd.ntmps86
      go_wp2
      refine wp_region_ext (by kernel_rfl) (by kernel_rfl) ?_
      repeat (go_big_quiet_step (fail))
      refine wpQuiet_nil ?_
      intro x hx
      go_wp2
      go_ret
      exact ⟨ret_bool (by rw [← HR.out]; simp [validF]; omega), ((Up.refl _).alloc _).trans hx⟩
  · have hd : decide (1 ≤ d) = false := by simpa using h1
    go_enter Tryd.func86, Tryd.ntmps86
    go_wp2
    refine wp_region_ext (by kernel_rfl) (by kernel_rfl) ?_
    repeat (go_big_quiet_step (fail))
    refine wpQuiet_nil ?_
    intro x hx
    go_wp2
    go_ret
    exact ⟨ret_bool (by rw [← HR.out]; simp [validF]; omega), ((Up.refl _).alloc _).trans hx⟩


theorem base_gcd (a b g : Int) (hgg : (Int.gcd a b : Int) = g) (ha : 0 ≤ a) (ha' : a ≤ 9223372036854775807) (hb : 0 ≤ b) (hb' : b ≤ 9223372036854775807) (w : World) :
    Calls Tryd.prog 72 #[.int .i64 a, .int .i64 b] w fun e w' => e = .returned (.int .i64 g) ∧ Up w w' := by
  subst hgg
  go_enter Tryd.func72, Tryd.ntmps72
  go_wp2
  go_loopw [0, 1] (fun x y wr => ∃ a' b' : Int, 0 ≤ a' ∧ a' ≤ 9223372036854775807 ∧ 0 ≤ b' ∧ b' ≤ 9223372036854775807 ∧ x = .int .i64 a' ∧ y = .int .i64 b' ∧ Int.gcd a' b' = Int.gcd a b ∧ Up w wr) (fun _ y _ => (intOf y).toNat)
  case atStart => exact ⟨a, b, ha, ha', hb, hb', rfl, rfl, rfl, Up.refl _⟩
  case round =>
    rename_i wr
    obtain ⟨a', b', h1, h2, h3, h4, rfl, rfl, hg, hB⟩ := hrel
    have HG := Lib.hid hg
    clear hg
    by_cases h0 : b' = 0
    · subst h0
      go_wp2
      go_ret
      exact ⟨ret_int (by rw [← HG.out]; simp; omega), hB⟩
    · have h5 : 0 < b' := by omega
      have h6 : (b' == 0) = false := by simp [h0]
      have h7 : (b' != 0) = true := by simp [h0]
      go_wp2
      go_quiet (fail)
      go_wp2
      go_roundw
      case rel => exact ⟨b', a' % b', h3, h4, Int.emod_nonneg _ h0, by have := Int.emod_lt_of_pos a' h5; omega, rfl, rfl, by rw [gcd_step _ _ h1 h3]; exact HG.out, hB.drewN _⟩
      case measure =>
        have := Int.emod_lt_of_pos a' h5
        simp [intOf]; omega

/-- A fraction that is held against kind 'fraction'. -/
theorem base_Val_frac (k b f r o n d : Int) (res : Bool) (hr : validF n d = res) (hk : (k == 2) = false) (hk3 : (k == 3) = false) (w1 : -9223372036854775808 ≤ n) (w2 : n ≤ 9223372036854775807) (w : World) :
    Calls Tryd.prog 60 #[.agg #[.int .i64 k, .int .i64 b, .int .i64 f, .int .i64 r, .int .i64 o], .agg #[.int .i64 n, .int .i64 d]] w fun e w' => e = .returned (.bool res) ∧ Up w w' := by
  have hV := ((Up.refl w).alloc (.cells #[.int .i64 k, .int .i64 b, .int .i64 f, .int .i64 r, .int .i64 o] 62)).alloc (.cells #[.int .i64 n, .int .i64 d] 60)
  have HR := Lib.hid hr
  clear hr
  by_cases h1 : n ≤ 2147483647
  · by_cases h2 : -2147483647 ≤ n
    · by_cases h3 : 1 ≤ d
      · by_cases h4 : d ≤ 2147483647
        · obtain ⟨g, hg⟩ : ∃ g, (Int.gcd n d : Int) = g := ⟨_, rfl⟩
          have HV : Hid ((g == 1) = res) := Lib.hid (by
            rw [← HR.out, ← hg, validF, Bool.eq_iff_iff]; simp; omega)
          by_cases hs : n < 0
          · have HG : Hid ((Int.gcd (-n) d : Int) = g) := Lib.hid (by rw [Int.neg_gcd]; exact hg)
            have hs2 : n < -n := by omega
            clear hg
            go_enter Tryd.func60, Tryd.ntmps60
            go_wp2_with (go_at_call 72; refine (base_gcd _ _ _ HG.out (by omega) (by omega) (by omega) (by omega) _).mono ?_; rintro e x ⟨rfl, hx⟩)
            go_ret
            exact ⟨ret_bool (by rw [HV.out]), hV.trans (by assumption)⟩
          · have HG : Hid ((Int.gcd n d : Int) = g) := Lib.hid hg
            have hs2 : ¬ n < -n := by omega
            have hs3 : -n ≤ n := by omega
            clear hg
            go_enter Tryd.func60, Tryd.ntmps60
            go_wp2_with (go_at_call 72; refine (base_gcd _ _ _ HG.out (by omega) (by omega) (by omega) (by omega) _).mono ?_; rintro e x ⟨rfl, hx⟩)
            go_ret
            exact ⟨ret_bool (by rw [HV.out]), hV.trans (by assumption)⟩
        · have HV : Hid (res = false) := Lib.hid (by rw [← HR.out, validF]; simp; omega)
          have hx : 2147483647 < d := by omega
          go_enter Tryd.func60, Tryd.ntmps60
          go_wp2
          go_ret
          exact ⟨ret_bool (by rw [HV.out]), hV⟩
      · have HV : Hid (res = false) := Lib.hid (by rw [← HR.out, validF]; simp; omega)
        have hx : d < 1 := by omega
        go_enter Tryd.func60, Tryd.ntmps60
        go_wp2
        go_ret
        exact ⟨ret_bool (by rw [HV.out]), hV⟩
    · have HV : Hid (res = false) := Lib.hid (by rw [← HR.out, validF]; simp; omega)
      have hx : n < -2147483647 := by omega
      go_enter Tryd.func60, Tryd.ntmps60
      go_wp2
      go_ret
      exact ⟨ret_bool (by rw [HV.out]), hV⟩
  · have HV : Hid (res = false) := Lib.hid (by rw [← HR.out, validF]; simp; omega)
    have hx : 2147483647 < n := by omega
    go_enter Tryd.func60, Tryd.ntmps60
    go_wp2
    go_ret
    exact ⟨ret_bool (by rw [HV.out]), hV⟩
end Go.Proofs.YtbpojmhgifgfdaaDoor
end
