/-
  Contracts: Narrow of package round and of the reference of chapter 2.
-/
import Derived.Test.YtplgppolmnnenaaNarrow
namespace Go.Proofs.Ytplgppolmnnenaa
open Go.ChangeShapes Go.WideShapes Go.ChangeAt Go.RowKit

def narrowW (n b o : Int) : Int × Bool :=
  if ¬ (2 ≤ b ∧ b ≤ 31) ∨ ¬ (o = 1 ∨ o = 2) then (0, false)
  else if -(2 ^ (b.toNat - 1) : Int) ≤ n ∧ n ≤ (2 ^ (b.toNat - 1) : Int) - 1 then (n, false)
  else if o = 1 then (if n < -(2 ^ (b.toNat - 1) : Int) then -(2 ^ (b.toNat - 1) : Int) else (2 ^ (b.toNat - 1) : Int) - 1, true)
  else ((n + 2 ^ (b.toNat - 1)) % (2 ^ b.toNat : Int) - 2 ^ (b.toNat - 1), true)

theorem round_MinInt' (b m : Int) (hm : minW b = m) (w : World) :
    Calls Try.prog 10 #[.int .i64 b] w fun e w' => e = .returned (.int .i64 m) ∧ Up w w' := hm ▸ round_MinInt b w
theorem round_MaxInt' (b m : Int) (hm : maxW b = m) (w : World) :
    Calls Try.prog 12 #[.int .i64 b] w fun e w' => e = .returned (.int .i64 m) ∧ Up w w' := hm ▸ round_MaxInt b w

theorem pow_twice (b : Int) (h1 : 2 ≤ b) : (2 : Int) ^ b.toNat = 2 * 2 ^ (b.toNat - 1) := by
  have : b.toNat = (b.toNat - 1) + 1 := by omega
  rw [this, Int.pow_succ]
  simp [Int.mul_comm]

theorem shl_narrow (n b : Int) (h1 : 2 ≤ b) (h2 : b ≤ 31) : wrap64 (IntKind.u64.wrap (n * 2 ^ (64 - b).toNat)) / 2 ^ (64 - b).toNat = (n + 2 ^ (b.toNat - 1)) % 2 ^ b.toNat - 2 ^ (b.toNat - 1) := by
  have hb : b = 2 ∨ b = 3 ∨ b = 4 ∨ b = 5 ∨ b = 6 ∨ b = 7 ∨ b = 8 ∨ b = 9 ∨ b = 10 ∨ b = 11 ∨ b = 12 ∨ b = 13 ∨ b = 14 ∨ b = 15 ∨ b = 16 ∨ b = 17 ∨ b = 18 ∨ b = 19 ∨ b = 20 ∨ b = 21 ∨ b = 22 ∨ b = 23 ∨ b = 24 ∨ b = 25 ∨ b = 26 ∨ b = 27 ∨ b = 28 ∨ b = 29 ∨ b = 30 ∨ b = 31 := by omega
  rw [wrap64, IntKind.wrap_u64]
  rcases hb with rfl | rfl | rfl | rfl | rfl | rfl | rfl | rfl | rfl | rfl | rfl | rfl | rfl | rfl | rfl | rfl | rfl | rfl | rfl | rfl | rfl | rfl | rfl | rfl | rfl | rfl | rfl | rfl | rfl | rfl
  all_goals
    simp only [Int.reduceSub, Int.reduceToNat, Nat.reduceSub, Int.reducePow]
    omega

theorem wrap_u64_mul (n m : Int) : IntKind.u64.wrap (IntKind.u64.wrap n * m) = IntKind.u64.wrap (n * m) := by
  rw [IntKind.wrap_u64, IntKind.wrap_u64, IntKind.wrap_u64, Int.mul_emod (n % 18446744073709551616), Int.emod_emod_of_dvd n (Int.dvd_refl _), ← Int.mul_emod]

theorem round_Narrow (n b o : Int) (w1 : -9223372036854775808 ≤ n) (w2 : n ≤ 9223372036854775807) (w : World) :
    Calls Try.prog 8 #[.int .i64 n, .int .i64 b, .int .i64 o] w fun e w' => e = .returned (.tuple #[.int .i64 (narrowW n b o).1, .bool (narrowW n b o).2]) ∧ Up w w' := by
  by_cases h : 2 ≤ b ∧ b ≤ 31
  · have hv : Hid (vldW b = true) := Lib.hid (by simp [vldW, h])
    by_cases ho : o = 1 ∨ o = 2
    · obtain ⟨P, hP⟩ : ∃ P : Int, 2 ^ (b.toNat - 1) = P := ⟨_, rfl⟩
      have hp := pow_bd b h.1 h.2
      have HM : Hid (minW b = -P) := Lib.hid (by rw [minW, if_pos h, hP])
      have HX : Hid (maxW b = P - 1) := Lib.hid (by rw [maxW, if_pos h, hP])
      have HN := Lib.hid (show narrowW n b o = _ from (by rw [narrowW, if_neg (by simp [h, ho]), hP]))
      rw [hP] at hp
      have HA : Hid ((2 : Int) ^ b.toNat = 2 * P) := Lib.hid (by rw [← hP, pow_twice b h.1])
      have HP := Lib.hid hP
      clear hP
      obtain ⟨hp1, hp2⟩ := hp
      obtain ⟨h1, h2⟩ := h
      have hU := Up.refl w
      by_cases c1 : -P ≤ n
      · by_cases c2 : n ≤ P - 1
        · rcases ho with rfl | rfl
          all_goals
            go_enter Try.func8, Try.ntmps8
            go_wp2_with (first | (go_at_call 21; refine (round_valid _ true hv.out _).mono ?_; rintro e x ⟨rfl, hx⟩; replace hU := hU.trans hx) | (go_at_call 10; refine (round_MinInt' _ _ HM.out _).mono ?_; rintro e x ⟨rfl, hx⟩; replace hU := hU.trans hx) | (go_at_call 12; refine (round_MaxInt' _ _ HX.out _).mono ?_; rintro e x ⟨rfl, hx⟩; replace hU := hU.trans hx))
            go_ret2
            exact ⟨ret_ib (by rw [HN.out, if_pos ⟨c1, c2⟩]) (by rw [HN.out, if_pos ⟨c1, c2⟩]), hU⟩
        · have c3 : P - 1 < n := by omega
          rcases ho with rfl | rfl
          · go_enter Try.func8, Try.ntmps8
            go_wp2_with (first | (go_at_call 21; refine (round_valid _ true hv.out _).mono ?_; rintro e x ⟨rfl, hx⟩; replace hU := hU.trans hx) | (go_at_call 10; refine (round_MinInt' _ _ HM.out _).mono ?_; rintro e x ⟨rfl, hx⟩; replace hU := hU.trans hx) | (go_at_call 12; refine (round_MaxInt' _ _ HX.out _).mono ?_; rintro e x ⟨rfl, hx⟩; replace hU := hU.trans hx))
            go_ret2
            exact ⟨ret_ib (by rw [HN.out, if_neg (by omega), if_pos (by trivial), if_neg (by omega)]) (by rw [HN.out, if_neg (by omega), if_pos (by trivial)]), hU⟩
          · go_enter Try.func8, Try.ntmps8
            go_wp2_with (first | (go_at_call 21; refine (round_valid _ true hv.out _).mono ?_; rintro e x ⟨rfl, hx⟩; replace hU := hU.trans hx) | (go_at_call 10; refine (round_MinInt' _ _ HM.out _).mono ?_; rintro e x ⟨rfl, hx⟩; replace hU := hU.trans hx) | (go_at_call 12; refine (round_MaxInt' _ _ HX.out _).mono ?_; rintro e x ⟨rfl, hx⟩; replace hU := hU.trans hx))
            go_ret2
            exact ⟨ret_ib (by rw [HN.out, if_neg (by omega), if_neg (by simp), shl_narrow n b h1 h2, HP.out]) (by rw [HN.out, if_neg (by omega), if_neg (by simp)]), hU⟩
      · have c3 : n < -P := by omega
        rcases ho with rfl | rfl
        · go_enter Try.func8, Try.ntmps8
          go_wp2_with (first | (go_at_call 21; refine (round_valid _ true hv.out _).mono ?_; rintro e x ⟨rfl, hx⟩; replace hU := hU.trans hx) | (go_at_call 10; refine (round_MinInt' _ _ HM.out _).mono ?_; rintro e x ⟨rfl, hx⟩; replace hU := hU.trans hx) | (go_at_call 12; refine (round_MaxInt' _ _ HX.out _).mono ?_; rintro e x ⟨rfl, hx⟩; replace hU := hU.trans hx))
          go_ret2
          exact ⟨ret_ib (by rw [HN.out, if_neg (by omega), if_pos (by trivial), if_pos (by omega)]) (by rw [HN.out, if_neg (by omega), if_pos (by trivial)]), hU⟩
        · go_enter Try.func8, Try.ntmps8
          go_wp2_with (first | (go_at_call 21; refine (round_valid _ true hv.out _).mono ?_; rintro e x ⟨rfl, hx⟩; replace hU := hU.trans hx) | (go_at_call 10; refine (round_MinInt' _ _ HM.out _).mono ?_; rintro e x ⟨rfl, hx⟩; replace hU := hU.trans hx) | (go_at_call 12; refine (round_MaxInt' _ _ HX.out _).mono ?_; rintro e x ⟨rfl, hx⟩; replace hU := hU.trans hx))
          go_ret2
          exact ⟨ret_ib (by rw [HN.out, if_neg (by omega), if_neg (by simp), wrap_u64_mul, shl_narrow n b h1 h2, HP.out]) (by rw [HN.out, if_neg (by omega), if_neg (by simp)]), hU⟩
    · have HN := Lib.hid (show narrowW n b o = _ from (by rw [narrowW, if_pos (Or.inr ho)]))
      have o1 : (o == 1) = false := by simp; omega
      have o2 : (o == 2) = false := by simp; omega
      have o3 : (o != 1) = true := by simp; omega
      have o4 : (o != 2) = true := by simp; omega
      obtain ⟨h1, h2⟩ := h
      clear ho
      have hU := Up.refl w
      go_enter Try.func8, Try.ntmps8
      go_wp2_with (go_at_call 21; refine (round_valid _ true hv.out _).mono ?_; rintro e x ⟨rfl, hx⟩; replace hU := hU.trans hx)
      go_ret2
      exact ⟨ret_ib (by rw [HN.out]) (by rw [HN.out]), hU⟩
  · have hv : Hid (vldW b = false) := Lib.hid (by simp [vldW]; omega)
    have HN := Lib.hid (show narrowW n b o = _ from (by rw [narrowW, if_pos (Or.inl h)]))
    have hU := Up.refl w
    clear h
    go_enter Try.func8, Try.ntmps8
    go_wp2_with (go_at_call 21; refine (round_valid _ false hv.out _).mono ?_; rintro e x ⟨rfl, hx⟩; replace hU := hU.trans hx)
    go_ret2
    exact ⟨ret_ib (by rw [HN.out]) (by rw [HN.out]), hU⟩

theorem ref02_MinInt (b : Int) (w : World) :
    Calls Try.prog 11 #[.int .i64 b] w fun e w' => e = .returned (.int .i64 (minW b)) ∧ Up w w' := by
  by_cases h : 2 ≤ b ∧ b ≤ 31
  · obtain ⟨h1, h2⟩ := h
    have hp := pow_bd b h1 h2
    have hm : Hid (minW b = -(2 ^ (b.toNat - 1) : Int)) := Lib.hid (by rw [minW, if_pos ⟨h1, h2⟩])
    obtain ⟨hp1, hp2⟩ := hp
    go_enter Try.func11, Try.ntmps11
    go_wp2
    go_ret
    exact ⟨ret_int (by rw [hm.out]), Up.refl _⟩
  · have hm : Hid (minW b = 0) := Lib.hid (by rw [minW, if_neg h])
    rcases (by omega : b < 2 ∨ (2 ≤ b ∧ 31 < b)) with h1 | ⟨h1, h2⟩
    all_goals
      clear h
      go_enter Try.func11, Try.ntmps11
      go_wp2
      go_ret
      exact ⟨ret_int (by rw [hm.out]), Up.refl _⟩

theorem ref02_MaxInt (b : Int) (w : World) :
    Calls Try.prog 13 #[.int .i64 b] w fun e w' => e = .returned (.int .i64 (maxW b)) ∧ Up w w' := by
  by_cases h : 2 ≤ b ∧ b ≤ 31
  · obtain ⟨h1, h2⟩ := h
    have hp := pow_bd b h1 h2
    have hm : Hid (maxW b = (2 ^ (b.toNat - 1) : Int) - 1) := Lib.hid (by rw [maxW, if_pos ⟨h1, h2⟩])
    obtain ⟨hp1, hp2⟩ := hp
    go_enter Try.func13, Try.ntmps13
    go_wp2
    go_ret
    exact ⟨ret_int (by rw [hm.out]), Up.refl _⟩
  · have hm : Hid (maxW b = 0) := Lib.hid (by rw [maxW, if_neg h])
    rcases (by omega : b < 2 ∨ (2 ≤ b ∧ 31 < b)) with h1 | ⟨h1, h2⟩
    all_goals
      clear h
      go_enter Try.func13, Try.ntmps13
      go_wp2
      go_ret
      exact ⟨ret_int (by rw [hm.out]), Up.refl _⟩

theorem ref02_MinInt' (b m : Int) (hm : minW b = m) (w : World) :
    Calls Try.prog 11 #[.int .i64 b] w fun e w' => e = .returned (.int .i64 m) ∧ Up w w' := hm ▸ ref02_MinInt b w
theorem ref02_MaxInt' (b m : Int) (hm : maxW b = m) (w : World) :
    Calls Try.prog 13 #[.int .i64 b] w fun e w' => e = .returned (.int .i64 m) ∧ Up w w' := hm ▸ ref02_MaxInt b w

theorem wrap_pos (n P A : Int) (hA : A = 2 * P) (hP : 1 ≤ P) : (n + P) % A - P = if P ≤ n % A then n % A - A else n % A := by
  have h := Int.mul_ediv_add_emod n A
  have h0 : 0 ≤ n % A := Int.emod_nonneg _ (by omega)
  have h1 : n % A < A := Int.emod_lt_of_pos _ (by omega)
  have key : ∀ q r : Int, 0 ≤ r → r < A → r + A * q = n + P → (n + P) % A = r := fun q r a b c => ((Int.ediv_emod_unique (by omega)).2 ⟨c, a, b⟩).2
  split
  · rw [key (n / A + 1) (n % A - P) (by omega) (by omega) (by rw [Int.mul_add]; omega)]; omega
  · rw [key (n / A) (n % A + P) (by omega) (by omega) (by omega)]; omega

theorem wrap_neg (n P A : Int) (hA : A = 2 * P) (hP : 1 ≤ P) (hn : n ≤ 0) : -A < n.tmod A ∧ n.tmod A ≤ 0 ∧ (n + P) % A - P = if n.tmod A < -P then n.tmod A + A else n.tmod A := by
  have e : n.tmod A = -((-n) % A) := by
    have : n.tmod A = -((-n).tmod A) := by rw [Int.neg_tmod]; omega
    rw [this, Int.tmod_eq_emod_of_nonneg (by omega)]
  have h := Int.mul_ediv_add_emod (-n) A
  have h0 : 0 ≤ (-n) % A := Int.emod_nonneg _ (by omega)
  have h1 : (-n) % A < A := Int.emod_lt_of_pos _ (by omega)
  have key : ∀ q r : Int, 0 ≤ r → r < A → r + A * q = n + P → (n + P) % A = r := fun q r a b c => ((Int.ediv_emod_unique (by omega)).2 ⟨c, a, b⟩).2
  refine ⟨by omega, by omega, ?_⟩
  split
  · rw [key (-((-n) / A) - 1) (P - (-n) % A + A) (by omega) (by omega) (by rw [Int.mul_sub, Int.mul_neg]; omega)]; omega
  · rw [key (-((-n) / A)) (P - (-n) % A) (by omega) (by omega) (by rw [Int.mul_neg]; omega)]; omega

theorem ref02_Narrow (n b o : Int) (w1 : -9223372036854775808 ≤ n) (w2 : n ≤ 9223372036854775807) (w : World) :
    Calls Try.prog 9 #[.int .i64 n, .int .i64 b, .int .i64 o] w fun e w' => e = .returned (.tuple #[.int .i64 (narrowW n b o).1, .bool (narrowW n b o).2]) ∧ Up w w' := by
  by_cases h : 2 ≤ b ∧ b ≤ 31
  · have hv : Hid (vldW b = true) := Lib.hid (by simp [vldW, h])
    by_cases ho : o = 1 ∨ o = 2
    · obtain ⟨P, hP⟩ : ∃ P : Int, 2 ^ (b.toNat - 1) = P := ⟨_, rfl⟩
      have hp := pow_bd b h.1 h.2
      have HM : Hid (minW b = -P) := Lib.hid (by rw [minW, if_pos h, hP])
      have HX : Hid (maxW b = P - 1) := Lib.hid (by rw [maxW, if_pos h, hP])
      rw [hP] at hp
      obtain ⟨A, hA⟩ : ∃ A : Int, (2 : Int) ^ b.toNat = A := ⟨_, rfl⟩
      have HA : Hid (A = 2 * P) := Lib.hid (by rw [← hA, ← hP, pow_twice b h.1])
      have hA1 : 4 ≤ A := by rw [HA.out]; omega
      have hA2 : A ≤ 2147483648 := by rw [HA.out]; omega
      have HN := Lib.hid (show narrowW n b o = _ from (by rw [narrowW, if_neg (by simp [h, ho]), hP, hA]))
      have HP := Lib.hid hP
      clear hP
      obtain ⟨hp1, hp2⟩ := hp
      obtain ⟨h1, h2⟩ := h
      have hU := Up.refl w
      by_cases c1 : -P ≤ n
      · by_cases c2 : n ≤ P - 1
        · rcases ho with rfl | rfl
          all_goals
            go_enter Try.func9, Try.ntmps9
            go_wp2_with (first | (go_at_call 11; refine (ref02_MinInt' _ _ HM.out _).mono ?_; rintro e x ⟨rfl, hx⟩; replace hU := hU.trans hx) | (go_at_call 13; refine (ref02_MaxInt' _ _ HX.out _).mono ?_; rintro e x ⟨rfl, hx⟩; replace hU := hU.trans hx))
            go_ret2
            exact ⟨ret_ib (by rw [HN.out, if_pos ⟨c1, c2⟩]) (by rw [HN.out, if_pos ⟨c1, c2⟩]), hU⟩
        · have c3 : P - 1 < n := by omega
          have W1 := Lib.hid (wrap_pos n P A HA.out (by omega))
          have r0 : 0 ≤ n % A := Int.emod_nonneg _ (by omega)
          have r1 : n % A < A := Int.emod_lt_of_pos _ (by omega)
          rcases ho with rfl | rfl
          · go_enter Try.func9, Try.ntmps9
            go_wp2_with (first | (go_at_call 11; refine (ref02_MinInt' _ _ HM.out _).mono ?_; rintro e x ⟨rfl, hx⟩; replace hU := hU.trans hx) | (go_at_call 13; refine (ref02_MaxInt' _ _ HX.out _).mono ?_; rintro e x ⟨rfl, hx⟩; replace hU := hU.trans hx))
            go_ret2
            exact ⟨ret_ib (by rw [HN.out, if_neg (by omega), if_pos (by trivial), if_neg (by omega)]) (by rw [HN.out, if_neg (by omega), if_pos (by trivial)]), hU⟩
          · go_enter Try.func9, Try.ntmps9
            go_wp2_with (first | (go_at_call 11; refine (ref02_MinInt' _ _ HM.out _).mono ?_; rintro e x ⟨rfl, hx⟩; replace hU := hU.trans hx) | (go_at_call 13; refine (ref02_MaxInt' _ _ HX.out _).mono ?_; rintro e x ⟨rfl, hx⟩; replace hU := hU.trans hx))
            all_goals
              go_ret2
              exact ⟨ret_ib (by rw [HN.out, if_neg (by omega), if_neg (by simp)]; have hA3 := HA.out; simp only []; rw [W1.out]; split <;> omega) (by rw [HN.out, if_neg (by omega), if_neg (by simp)]), hU⟩
      · have c3 : n < -P := by omega
        obtain ⟨r0, r1, W3⟩ := wrap_neg n P A HA.out (by omega) (by omega)
        have W2 := Lib.hid W3
        clear W3
        rcases ho with rfl | rfl
        · go_enter Try.func9, Try.ntmps9
          go_wp2_with (first | (go_at_call 11; refine (ref02_MinInt' _ _ HM.out _).mono ?_; rintro e x ⟨rfl, hx⟩; replace hU := hU.trans hx) | (go_at_call 13; refine (ref02_MaxInt' _ _ HX.out _).mono ?_; rintro e x ⟨rfl, hx⟩; replace hU := hU.trans hx))
          go_ret2
          exact ⟨ret_ib (by rw [HN.out, if_neg (by omega), if_pos (by trivial), if_pos (by omega)]) (by rw [HN.out, if_neg (by omega), if_pos (by trivial)]), hU⟩
        · go_enter Try.func9, Try.ntmps9
          go_wp2_with (first | (go_at_call 11; refine (ref02_MinInt' _ _ HM.out _).mono ?_; rintro e x ⟨rfl, hx⟩; replace hU := hU.trans hx) | (go_at_call 13; refine (ref02_MaxInt' _ _ HX.out _).mono ?_; rintro e x ⟨rfl, hx⟩; replace hU := hU.trans hx))
          all_goals
            go_ret2
            exact ⟨ret_ib (by rw [HN.out, if_neg (by omega), if_neg (by simp)]; have hA3 := HA.out; simp only []; rw [W2.out]; split <;> omega) (by rw [HN.out, if_neg (by omega), if_neg (by simp)]), hU⟩
    · have HN := Lib.hid (show narrowW n b o = _ from (by rw [narrowW, if_pos (Or.inr ho)]))
      have o1 : (o == 1) = false := by simp; omega
      have o2 : (o == 2) = false := by simp; omega
      have o3 : (o != 1) = true := by simp; omega
      have o4 : (o != 2) = true := by simp; omega
      obtain ⟨h1, h2⟩ := h
      clear ho
      have hU := Up.refl w
      go_enter Try.func9, Try.ntmps9
      go_wp2
      go_ret2
      exact ⟨ret_ib (by rw [HN.out]) (by rw [HN.out]), hU⟩
  · have hv : Hid (vldW b = false) := Lib.hid (by simp [vldW]; omega)
    have HN := Lib.hid (show narrowW n b o = _ from (by rw [narrowW, if_pos (Or.inl h)]))
    have hU := Up.refl w
    rcases (by omega : b < 2 ∨ (2 ≤ b ∧ 31 < b)) with h1 | ⟨h1, h2⟩
    all_goals
      clear h
      go_enter Try.func9, Try.ntmps9
      go_wp2
      go_ret2
      exact ⟨ret_ib (by rw [HN.out]) (by rw [HN.out]), hU⟩
end Go.Proofs.Ytplgppolmnnenaa
