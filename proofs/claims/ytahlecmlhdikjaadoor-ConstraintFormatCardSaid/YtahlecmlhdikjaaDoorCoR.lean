/-
  Validate, Holds, FirstViolated, size, floor, gcd, never of the reference.
-/
import Derived.Test.YtahlecmlhdikjaaDoorGg
import Derived.Test.YtahlecmlhdikjaaDoorLinDe
namespace Go.Proofs.YtahlecmlhdikjaaDoor
open Go.ChangeShapes Go.WideShapes Go.ChangeAt Go.RowKit
set_option linter.unusedVariables false
set_option linter.unusedSimpArgs false
set_option maxRecDepth 100000

theorem r06_Validate (K : Int) (v : Value) (l : List Mono) (b : Bool) (w : World) (hv : MonosAt w v l) :
    Calls Tryd.prog 32 #[.agg #[.int .i64 K, v, .bool b]] w fun e w' => e = .returned (.int .i64 (errOf (okL l))) ∧ Up w w' := by
  obtain ⟨q, hq⟩ : ∃ q, okL l = q := ⟨_, rfl⟩
  have HC : Hid (∀ w, MonosAt w v l → Calls Tryd.prog 61 #[.agg #[.int .i64 K, v]] w fun e w' => e = .returned (.bool q) ∧ Up w w') := Lib.hid fun w h => hq ▸ base_LinRight K v l w h
  rw [hq]
  have HV := Lib.hid hv
  obtain ⟨a, cap, rfl⟩ := hv.slice
  obtain ⟨n, hn⟩ : ∃ n, l.length = n := ⟨_, rfl⟩
  rw [hn] at HV HC ⊢
  clear hv hn hq
  cases q <;> (
  go_enter Tryd.func32, Tryd.ntmps32
  go_wp2_with fail
  refine (HC.out _ (HV.out.up ((Up.refl w).alloc _))).mono ?_
  rintro e x ⟨rfl, hx⟩
  have HU := Lib.hid (((Up.refl w).alloc _).trans hx)
  clear hx
  go_wp2
  go_ret
  exact ⟨rfl, HU.out⟩)

set_option maxHeartbeats 2000000 in
theorem r06_Holds (K : Int) (v ev : Value) (l env : List Mono) (b : Bool) (w : World) (hv : MonosAt w v l) (he : MonosAt w ev env) (hK : In64 K) (hl : Rng l) (hen : Rng env) (hlen : l.length ≤ 1000) :
    Calls Tryd.prog 19 #[.agg #[.int .i64 K, v, .bool b], ev] w (HoldsR w (holdsF (K, l, b) env)) := by
  obtain ⟨r, hr⟩ : ∃ r, holdsF (K, l, b) env = r := ⟨_, rfl⟩
  rw [hr]
  have HV := Lib.hid hv
  have HE := Lib.hid he
  obtain ⟨a, cap, rfl⟩ := hv.slice
  obtain ⟨a', cap', rfl⟩ := he.slice
  obtain ⟨n, hn⟩ : ∃ n, l.length = n := ⟨_, rfl⟩
  obtain ⟨n', hn'⟩ : ∃ n', env.length = n' := ⟨_, rfl⟩
  rw [hn] at HV ⊢
  rw [hn'] at HE ⊢
  obtain ⟨q, hq⟩ : ∃ q, evalF K l env = q := ⟨_, rfl⟩
  have HEV : Hid (∀ w, MonosAt w (.slice a n cap) l → MonosAt w (.slice a' n' cap') env → Calls Tryd.prog 46 #[.agg #[.int .i64 K, .slice a n cap], .slice a' n' cap'] w fun e w' => e = .returned (.tuple #[.int .i64 q.1, .int .i64 q.2]) ∧ Up w w') := Lib.hid fun w h h' => by
    have := r05_Eval K _ _ l env w h h' hK hl hen hlen
    rw [hq] at this; exact this
  have HR : Hid ((if q.2 ≠ 0 then (false, q.2) else (holdsB q.1 b, 0)) = r) := Lib.hid (by rw [← hr]; unfold holdsF; dsimp only; rw [hq])
  obtain ⟨q1, q2⟩ := q
  dsimp only at HR HEV
  clear hr hq hv he hK hl hen hlen hn hn'
  go_enter Tryd.func19, Tryd.ntmps19
  go_wp2_with fail
  refine (HEV.out _ (HV.out.up ((Up.refl w).alloc _)) (HE.out.up ((Up.refl w).alloc _))).mono ?_
  rintro e x ⟨rfl, hx⟩
  have hs := hx.size
  rw [size_alloc] at hs
  have b1 : x.cell? ⟨w.heap.size, 2, none⟩ = some (.bool b) := (hx.cell _ _ (by rw [size_alloc]; omega)).trans (by go_simp)
  have HU := Lib.hid (((Up.refl w).alloc _).trans hx)
  clear hx hs
  by_cases h2 : q2 = 0
  · subst h2
    have HG : Hid (r = (holdsB q1 b, 0)) := Lib.hid (by rw [← HR.out]; simp)
    by_cases h1 : q1 = 0
    · subst h1
      go_wp2
      go_ret2
      exact ⟨ret_bi (by rw [HG.out]; rfl) (by rw [HG.out]), HU.out⟩
    · have h1' : (q1 == 0) = false := by simpa using h1
      by_cases h3 : 0 < q1
      · have HB : Hid (holdsB q1 b = !b) := Lib.hid (by unfold holdsB; simp [h1, h3])
        go_wp2
        go_ret2
        exact ⟨ret_bi (by rw [HG.out]; exact HB.out.symm) (by rw [HG.out]), HU.out⟩
      · have HB : Hid (holdsB q1 b = false) := Lib.hid (by unfold holdsB; simp [h1, h3])
        go_wp2
        go_ret2
        exact ⟨ret_bi (by rw [HG.out]; exact HB.out.symm) (by rw [HG.out]), HU.out⟩
  · have h2' : (q2 == 0) = false := by simpa using h2
    have HG : Hid (r = (false, q2)) := Lib.hid (by rw [← HR.out]; simp [h2])
    go_wp2
    go_ret2
    exact ⟨ret_bi (by rw [HG.out]) (by rw [HG.out]), HU.out⟩

set_option maxHeartbeats 4000000 in
theorem r06_FirstViolated (v ev : Value) (cs : List Con) (env : List Mono) (w : World) (hv : ConsAt w v cs) (he : MonosAt w ev env) (hen : Rng env) (hlen : ∀ c ∈ cs, c.2.1.length ≤ 1000) :
    Calls Tryd.prog 25 #[v, ev] w fun e w' => e = .returned (.tuple #[.int .i64 (firstF env cs 0).1, .int .i64 (firstF env cs 0).2]) ∧ Up w w' := by
  obtain ⟨r, hr⟩ : ∃ r, firstF env cs 0 = r := ⟨_, rfl⟩
  rw [hr]
  have HV := Lib.hid hv
  have HE := Lib.hid he
  obtain ⟨⟨a, cap, rfl⟩, hmax⟩ := hv.slice
  obtain ⟨a', cap', rfl⟩ := he.slice
  obtain ⟨n, hn⟩ : ∃ n, cs.length = n := ⟨_, rfl⟩
  obtain ⟨n', hn'⟩ : ∃ n', env.length = n' := ⟨_, rfl⟩
  rw [hn] at hmax ⊢
  rw [hn'] at HE ⊢
  have hmI : (n : Int) ≤ 9223372036854775807 := by omega
  have HN := Lib.hid hn
  have HRR := Lib.hid hr
  have HL := Lib.hid hlen
  have HEN := Lib.hid hen
  clear hn hn' hr hv he hlen hen
  go_enter Tryd.func25, Tryd.ntmps25
  go_wp2
  go_loopw [6] (fun iv wr => ∃ (i : Nat), i ≤ n ∧ iv = .int .i64 i ∧ firstF env (cs.drop i) i = r ∧ Up w wr) (fun iv _ => n - (intOf iv).toNat)
  case atStart => exact ⟨0, by omega, rfl, by rw [List.drop_zero]; exact HRR.out, Up.refl w⟩
  case round =>
    rename World => wr
    obtain ⟨i, hi, rfl, hf, hU⟩ := hrel
    have HU := Lib.hid hU
    by_cases hlt : i < n
    · have hltI : (i : Int) < n := by omega
      obtain ⟨bl, off, lv, K, l, b, ha, hbl, hg, k0, k1, k2, hp, hKr⟩ := HV.out.elem HU.out i (by rw [HN.out]; exact hlt) HN.out (by rw [HN.out])
      subst ha
      have hd : cs.drop i = (K, l, b) :: cs.drop (i + 1) := by
        have := List.drop_eq_getElem_cons (l := cs) (i := i) (by rw [HN.out]; exact hlt)
        rw [this]
        congr 1
        rw [List.getD_eq_getElem?_getD, List.getElem?_eq_getElem (by rw [HN.out]; exact hlt)] at hg
        exact hg
      rw [hd] at hf
      have hm : (K, l, b) ∈ cs := List.mem_of_mem_drop (i := i) (by rw [hd]; exact List.mem_cons_self)
      have hl1 := HL.out _ hm
      obtain ⟨q, hq⟩ : ∃ q, holdsF (K, l, b) env = q := ⟨_, rfl⟩
      have HP := Lib.hid hp
      obtain ⟨al, capl, rfl⟩ := hp.1.slice
      obtain ⟨nl, hnl⟩ : ∃ n, l.length = n := ⟨_, rfl⟩
      rw [hnl] at HP k1
      have HH : Hid (∀ w, MonosAt w (.slice al nl capl) l → MonosAt w (.slice a' n' cap') env → Calls Tryd.prog 19 #[.agg #[.int .i64 K, .slice al nl capl, .bool b], .slice a' n' cap'] w (HoldsR w q)) := Lib.hid fun w h h' => by
        rw [← hq]; exact r06_Holds K _ _ l env b w h h' hKr hp.2.1 HEN.out hl1
      have HF : Hid ((if q.2 ≠ 0 ∨ q.1 = false then ((i : Int), q.2) else firstF env (cs.drop (i + 1)) ((i : Int) + 1)) = r) := Lib.hid (by rw [← hf, firstF_cons, hq])
      obtain ⟨q1, q2⟩ := q
      dsimp only at HF
      clear hf hd hm hg hp hq hnl hl1 hU
      go_wp2_with fail
      refine (HH.out _ HP.out.1 (HE.out.up HU.out)).mono ?_
      rintro e x ⟨rfl, hx⟩
      have HU2 := Lib.hid (HU.out.trans hx)
      clear hx HH
      by_cases h2 : q2 = 0
      · subst h2
        cases q1
        · have HG : Hid (r = ((i : Int), 0)) := Lib.hid (by rw [← HF.out]; simp)
          go_wp2
          go_ret2
          exact ⟨ret_ii (by rw [HG.out]) (by rw [HG.out]), HU2.out⟩
        · have HG : Hid (firstF env (cs.drop (i + 1)) ((i : Int) + 1) = r) := Lib.hid (by rw [← HF.out]; simp)
          go_wp2
          go_roundw
          case rel => exact ⟨i + 1, by omega, by go_num, HG.out, HU2.out⟩
          case measure => simp [intOf]; omega
      · have h2' : (q2 == 0) = false := by simpa using h2
        have HG : Hid (r = ((i : Int), q2)) := Lib.hid (by rw [← HF.out]; simp [h2])
        go_wp2
        go_ret2
        exact ⟨ret_ii (by rw [HG.out]) (by rw [HG.out]), HU2.out⟩
    · obtain rfl : i = n := by omega
      have HG : Hid (r = ((i : Int), 0)) := Lib.hid (by rw [← hf, List.drop_eq_nil_of_le (by rw [HN.out]; omega)]; rfl)
      go_wp2
      go_ret2
      exact ⟨ret_ii (by rw [HG.out]) (by rw [HG.out]), HU.out⟩


theorem r06_size (n : Int) (h : In64 n) (w : World) : Calls Tryd.prog 42 #[.int .i64 n] w fun e w' => e = .returned (.int .u64 (mag n)) ∧ w' = w := by
  obtain ⟨h0, h1⟩ := h
  by_cases hn : n < 0
  · have hm : mag n = -(n + 1) + 1 := by unfold mag; rw [if_pos hn]; omega
    rw [hm]
    obtain ⟨y, hy⟩ : ∃ y, -(n + 1) = y := ⟨_, rfl⟩
    have y0 : 0 ≤ y := by omega
    have y1 : y ≤ 9223372036854775807 := by omega
    go_enter Tryd.func42, Tryd.ntmps42
    go_wp2
    go_ret
    exact ⟨ret_int (by first | rfl | omega | (simp; omega)), rfl⟩
  · have hm : mag n = n := by unfold mag; rw [if_neg hn]
    rw [hm]
    have h2 : 0 ≤ n := by omega
    go_enter Tryd.func42, Tryd.ntmps42
    go_wp2
    go_ret
    exact ⟨by first | rfl | (exact ret_int (by omega)), rfl⟩
theorem r06_never (w : World) : Calls Tryd.prog 40 #[] w fun e w' => e = .returned (.agg #[.int .i64 (-1), .slice none 0 0, .bool false]) ∧ Up w w' := by
  go_enter Tryd.func40, Tryd.ntmps40
  go_wp2
  refine bodyPost_ret (v := .agg #[.int .i64 (-1), .slice none 0 0, .bool false]) (by first | (simp [results, Tryd.results40, go_sem]; done) | go_simp) rfl ?_
  exact ⟨rfl, by repeat (first | exact Up.refl _ | refine Up.alloc ?_ _ | refine Up.setCell ?_ (by show w.heap.size ≤ w.heap.size; omega) _)⟩

set_option maxHeartbeats 2000000 in
theorem r06_gcd (a b : Int) (a0 : 0 ≤ a) (a1 : a < 18446744073709551616) (b0 : 0 ≤ b) (b1 : b < 18446744073709551616) (w : World) :
    Calls Tryd.prog 41 #[.int .u64 a, .int .u64 b] w fun e w' => e = .returned (.int .u64 (Int.gcd a b)) ∧ Up w w' := by
  obtain ⟨R, hR⟩ : ∃ R, Int.gcd a b = R := ⟨_, rfl⟩
  rw [hR]
  have HR := Lib.hid hR
  clear hR
  go_enter Tryd.func41, Tryd.ntmps41
  go_wp2
  go_loopw [0, 1] (fun av bv wr => ∃ x y : Int, av = .int .u64 x ∧ bv = .int .u64 y ∧ (0 ≤ x ∧ x < 18446744073709551616) ∧ (0 ≤ y ∧ y < 18446744073709551616) ∧ Int.gcd x y = R ∧ Up w wr) (fun _ bv _ => (intOf bv).toNat)
  case atStart => exact ⟨a, b, rfl, rfl, ⟨a0, a1⟩, ⟨b0, b1⟩, HR.out, Up.refl w⟩
  case round =>
    rename World => wr
    obtain ⟨x, y, rfl, rfl, ⟨x0, x1⟩, ⟨y0, y1⟩, hG, hUr⟩ := hrel
    have HG := Lib.hid hG
    have HUr := Lib.hid hUr
    clear hG hUr
    by_cases hy : y = 0
    · subst hy
      have HX : Hid ((R : Int) = x) := Lib.hid (by rw [← HG.out, Int.gcd_zero_right]; omega)
      go_wp2
      go_ret
      exact ⟨ret_int HX.out.symm, HUr.out⟩
    · have hy2 : (y != 0) = true := by simpa using hy
      have hy3 : (y == 0) = false := by simpa using hy
      have z0 : 0 ≤ x % y := Int.emod_nonneg _ hy
      have z1 : x % y < y := Int.emod_lt_of_pos _ (by omega)
      have HG2 : Hid (Int.gcd y (x % y) = R) := Lib.hid (by rw [gcdStep x y x0 y0]; exact HG.out)
      have hemod : x.tmod y = x % y := Int.tmod_eq_emod_of_nonneg x0
      go_wp2_with fail
      refine wp_region_ext (by kernel_rfl) (by kernel_rfl) ?_
      repeat (go_big_quiet_step (fail))
      refine wpQuiet_nil ?_
      intro x5 hx5
      go_wp2
      go_roundw
      case rel => exact ⟨y, x % y, rfl, rfl, ⟨y0, y1⟩, ⟨z0, by omega⟩, HG2.out, HUr.out.trans hx5⟩
      case measure => simp [intOf]; omega

theorem neg_div {k g : Int} (hk : k < 0) (hg : 0 < g) : k / g = -((-k - 1) / g) - 1 := by
  obtain ⟨y, hy⟩ : ∃ y, -k - 1 = y := ⟨_, rfl⟩
  have hk' : k = -(y + 1) := by omega
  have y0 : 0 ≤ y := by omega
  rw [hy, hk']
  have e := Int.mul_ediv_add_emod y g
  have m0 := Int.emod_nonneg y (by omega : g ≠ 0)
  have m1 := Int.emod_lt_of_pos y hg
  obtain ⟨q, hq⟩ : ∃ q, y / g = q := ⟨_, rfl⟩
  obtain ⟨m, hm⟩ : ∃ m, y % g = m := ⟨_, rfl⟩
  rw [hq, hm] at e
  rw [hm] at m0 m1
  rw [hq, ← e]
  have : -(g * q + m + 1) = (g - m - 1) + g * (-q - 1) := by rw [Int.mul_sub, Int.mul_neg]; omega
  rw [this, Int.add_mul_ediv_left _ _ (by omega : g ≠ 0), Int.ediv_eq_zero_of_lt (by omega) (by omega)]
  omega
set_option maxHeartbeats 1000000 in
theorem r06_floor (k g : Int) (h : In64 k) (hg : 0 < g) (hg' : g ≤ 9223372036854775808) (w : World) :
    Calls Tryd.prog 43 #[.int .i64 k, .int .u64 g] w fun e w' => e = .returned (.int .i64 (k / g)) ∧ w' = w := by
  have hi := div_in64 hg h
  have h' := h
  obtain ⟨h0, h1⟩ := h
  have hgz : (g == 0) = false := by simp; omega
  have hgm : ¬ g = 0 := by omega
  have hg1 : 1 ≤ g := by omega
  by_cases hk : 0 ≤ k
  · obtain ⟨q, hq⟩ : ∃ q, k / g = q := ⟨_, rfl⟩
    have q0 : 0 ≤ q := hq ▸ Int.ediv_nonneg hk (by omega)
    have ht : k.tdiv g = q := by rw [Int.tdiv_eq_ediv_of_nonneg hk, hq]
    rw [hq] at hi ⊢
    obtain ⟨i0, i1⟩ := hi
    have HQ := Lib.hid hq
    clear h'
    go_enter Tryd.func43, Tryd.ntmps43
    go_wp2
    go_ret
    exact ⟨by first | rfl | exact ret_int (by first | omega | (have := HQ.out; simp; omega)), rfl⟩
  · have hk2 : k < 0 := by omega
    have hn := neg_div hk2 hg
    obtain ⟨m, hm⟩ : ∃ m, mag k = m := ⟨_, rfl⟩
    have hmm : m = -k := by rw [← hm]; unfold mag; rw [if_pos hk2]
    have HS : Hid (∀ w, Calls Tryd.prog 42 #[.int .i64 k] w fun e w' => e = .returned (.int .u64 m) ∧ w' = w) := Lib.hid fun w => hm ▸ r06_size k h' w
    have e1 : -k - 1 = m - 1 := by omega
    rw [e1] at hn
    obtain ⟨q, hq⟩ : ∃ q, (m - 1) / g = q := ⟨_, rfl⟩
    have m0 : 1 ≤ m := by omega
    have m1 : m ≤ 9223372036854775808 := by omega
    have q0 : 0 ≤ q := hq ▸ Int.ediv_nonneg (by omega) (by omega)
    have ht : (m - 1).tdiv g = q := by rw [Int.tdiv_eq_ediv_of_nonneg (by omega), hq]
    rw [hq] at hn
    rw [hn] at hi ⊢
    obtain ⟨i0, i1⟩ := hi
    have q1 : q ≤ 9223372036854775807 := by omega
    clear h' hn hm hmm e1
    have HQ := Lib.hid hq
    go_enter Tryd.func43, Tryd.ntmps43
    go_wp2_with fail
    refine (HS.out _).mono ?_
    rintro e w2 ⟨rfl, hw2⟩
    replace hw2 := hw2.symm
    subst hw2
    clear HS
    go_wp2
    go_ret
    exact ⟨by first | rfl | exact ret_int (by first | omega | (simp; omega)), rfl⟩
end Go.Proofs.YtahlecmlhdikjaaDoor
