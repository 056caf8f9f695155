/-
  Joined by a program: DgC, DgC1, DgC2, DgC3, MkL.
-/
import Derived.Test.YtpccaifhcmcegaaGreatHl
import Derived.Test.YtpccaifhcmcegaaGreatHm
import Derived.Test.YtpccaifhcmcegaaGreatHc

section
namespace Go.Proofs.YtpccaifhcmcegaaGreat
set_option linter.unusedSimpArgs false
open Go.ChangeShapes Go.WideShapes Go.ChangeAt Go.RowKit
set_option linter.unusedVariables false
set_option maxRecDepth 100000

theorem SlAt.emp (w : World) (a : Option Addr) (c : Nat) {k : Nat} {f : Nat → Nat → Value} : SlAt w (.slice a 0 c) 0 k f := ⟨⟨a, c, rfl, fun _ => rfl, fun x _ h => absurd h (by omega)⟩, by decide⟩
theorem rowT_mon : RowT 42 112 2 24 := rowT_of (z := .agg #[.string ByteArray.empty, .int .i64 0]) Tryz.underlying42 (by kernel_rfl) rfl (by decide)
theorem rowT_lin : RowT 53 44 2 32 := rowT_of (z := .agg #[.int .i64 0, .slice none 0 0]) Tryz.underlying53 (by kernel_rfl) rfl (by decide)
theorem rowT_ix : RowT 45 81 4 72 := rowT_of (z := .agg #[.int .i64 0, .slice none 0 0, .string ByteArray.empty, .slice none 0 0]) Tryz.underlying45 (by kernel_rfl) rfl (by decide)
set_option maxHeartbeats 4000000 in
theorem clone_str (v : Value) (n : Nat) (F : Nat → Nat → Value) (w : World) (hv : SlAt w v n 1 F) (h1 : ∀ i j, i < n → j < 1 → (F i j).oneCell' = true) (hb : n * 16 ≤ 140737488351232) :
    Calls Tryz.prog 35 #[v] w fun e w' => ∃ a c, e = .returned (.slice a n c) ∧ Up w w' ∧ w'.ownsRow w.heap.size 9 1 (.slice a n c) n (flat F n 1) := by
  obtain ⟨j0, z0, i0, i1, i2, i3, i4⟩ := rowT_str.info
  have HV := Lib.hid hv
  have H1 := Lib.hid h1
  have hnI : (n : Int) ≤ 140737488351232 := by omega
  obtain ⟨⟨a, cap, rfl, h0, -⟩, -⟩ := id hv
  clear hv h1
  have q22 : ∀ (w : World) (a : Option Addr) (n c n' c' : Nat), (binOp .eql 22 (.slice a n c) (.slice none n' c')).run Tryz.prog w = .ok (.bool a.isNone) w := fun w a n c n' c' => Lib.run_eql_slice_nil w _ _ a n c n' c' Tryz.underlying22
  cases a with
  | none =>
    obtain rfl : n = 0 := h0 rfl
    clear h0
    go_enter Tryz.func35, Tryz.ntmps35
    go_wp2
    go_ret
    exact ⟨none, 0, rfl, Up.refl _, by have := World.ownsRow_nil w w.heap.size 9 1; simpa [flat] using this⟩
  | some ad =>
    clear h0
    have hs : ((Option.some ad).isNone) = false := rfl
    have HAL : Hid (Up w (w.alloc (.cells #[] 9))) := Lib.hid ((Up.refl w).alloc _)
    have HSL := Lib.hid (HV.out.up HAL.out)
    go_enter Tryz.func35, Tryz.ntmps35
    go_wp2_with (at_builtin; refine wpList_append_sl _ rfl _ _ 22 rfl w.heap.size 9 j0 _ 1 16 Tryz.underlying22 i0 i1 i2 i3 i4 (by decide) _ 0 [] rfl (World.ownsRow_made w #[] 0 (Nat.le_refl _) (Nat.zero_le _) rfl) (.slice (some ad) n cap) n _ rfl HSL.out H1.out (by unfold maxLen; omega) (by omega) (by simp) ?_; intro v2 w1 hown1 hg1 hat1 hnil1; obtain ⟨vb, vd, rfl⟩ := own_slice hown1; have HO1 := Lib.hid hown1; have HG1 := Lib.hid hg1; clear hown1 hg1 hat1 hnil1)
    go_ret
    refine ⟨vb, vd, by simp, HAL.out.grown HG1.out (fun g hg => ?_), ?_⟩
    · have h1 : w.heap.size = g := Option.some.inj hg
      omega
    · have := HO1.out
      simpa using this
set_option maxHeartbeats 4000000 in
theorem clone_mon (v : Value) (n : Nat) (F : Nat → Nat → Value) (w : World) (hv : SlAt w v n 2 F) (h1 : ∀ i j, i < n → j < 2 → (F i j).oneCell' = true) (hb : n * 24 ≤ 140737488351232) :
    Calls Tryz.prog 58 #[v] w fun e w' => ∃ a c, e = .returned (.slice a n c) ∧ Up w w' ∧ w'.ownsRow w.heap.size 112 2 (.slice a n c) n (flat F n 2) := by
  obtain ⟨j0, z0, i0, i1, i2, i3, i4⟩ := rowT_mon.info
  have HV := Lib.hid hv
  have H1 := Lib.hid h1
  have hnI : (n : Int) ≤ 140737488351232 := by omega
  obtain ⟨⟨a, cap, rfl, h0, -⟩, -⟩ := id hv
  clear hv h1
  have q22 : ∀ (w : World) (a : Option Addr) (n c n' c' : Nat), (binOp .eql 42 (.slice a n c) (.slice none n' c')).run Tryz.prog w = .ok (.bool a.isNone) w := fun w a n c n' c' => Lib.run_eql_slice_nil w _ _ a n c n' c' Tryz.underlying42
  cases a with
  | none =>
    obtain rfl : n = 0 := h0 rfl
    clear h0
    go_enter Tryz.func58, Tryz.ntmps58
    go_wp2
    go_ret
    exact ⟨none, 0, rfl, Up.refl _, by have := World.ownsRow_nil w w.heap.size 112 2; simpa [flat] using this⟩
  | some ad =>
    clear h0
    have hs : ((Option.some ad).isNone) = false := rfl
    have HAL : Hid (Up w (w.alloc (.cells #[] 112))) := Lib.hid ((Up.refl w).alloc _)
    have HSL := Lib.hid (HV.out.up HAL.out)
    go_enter Tryz.func58, Tryz.ntmps58
    go_wp2_with (at_builtin; refine wpList_append_sl _ rfl _ _ 42 rfl w.heap.size 112 j0 _ 2 24 Tryz.underlying42 i0 i1 i2 i3 i4 (by decide) _ 0 [] rfl (World.ownsRow_made w #[] 0 (Nat.le_refl _) (Nat.zero_le _) rfl) (.slice (some ad) n cap) n _ rfl HSL.out H1.out (by unfold maxLen; omega) (by omega) (by simp) ?_; intro v2 w1 hown1 hg1 hat1 hnil1; obtain ⟨vb, vd, rfl⟩ := own_slice hown1; have HO1 := Lib.hid hown1; have HG1 := Lib.hid hg1; clear hown1 hg1 hat1 hnil1)
    go_ret
    refine ⟨vb, vd, by simp, HAL.out.grown HG1.out (fun g hg => ?_), ?_⟩
    · have h1 : w.heap.size = g := Option.some.inj hg
      omega
    · have := HO1.out
      simpa using this
set_option maxHeartbeats 4000000 in
theorem clone_lin (v : Value) (n : Nat) (F : Nat → Nat → Value) (w : World) (hv : SlAt w v n 2 F) (h1 : ∀ i j, i < n → j < 2 → (F i j).oneCell' = true) (hb : n * 32 ≤ 140737488351232) :
    Calls Tryz.prog 72 #[v] w fun e w' => ∃ a c, e = .returned (.slice a n c) ∧ Up w w' ∧ w'.ownsRow w.heap.size 44 2 (.slice a n c) n (flat F n 2) := by
  obtain ⟨j0, z0, i0, i1, i2, i3, i4⟩ := rowT_lin.info
  have HV := Lib.hid hv
  have H1 := Lib.hid h1
  have hnI : (n : Int) ≤ 140737488351232 := by omega
  obtain ⟨⟨a, cap, rfl, h0, -⟩, -⟩ := id hv
  clear hv h1
  have q22 : ∀ (w : World) (a : Option Addr) (n c n' c' : Nat), (binOp .eql 53 (.slice a n c) (.slice none n' c')).run Tryz.prog w = .ok (.bool a.isNone) w := fun w a n c n' c' => Lib.run_eql_slice_nil w _ _ a n c n' c' Tryz.underlying53
  cases a with
  | none =>
    obtain rfl : n = 0 := h0 rfl
    clear h0
    go_enter Tryz.func72, Tryz.ntmps72
    go_wp2
    go_ret
    exact ⟨none, 0, rfl, Up.refl _, by have := World.ownsRow_nil w w.heap.size 44 2; simpa [flat] using this⟩
  | some ad =>
    clear h0
    have hs : ((Option.some ad).isNone) = false := rfl
    have HAL : Hid (Up w (w.alloc (.cells #[] 44))) := Lib.hid ((Up.refl w).alloc _)
    have HSL := Lib.hid (HV.out.up HAL.out)
    go_enter Tryz.func72, Tryz.ntmps72
    go_wp2_with (at_builtin; refine wpList_append_sl _ rfl _ _ 53 rfl w.heap.size 44 j0 _ 2 32 Tryz.underlying53 i0 i1 i2 i3 i4 (by decide) _ 0 [] rfl (World.ownsRow_made w #[] 0 (Nat.le_refl _) (Nat.zero_le _) rfl) (.slice (some ad) n cap) n _ rfl HSL.out H1.out (by unfold maxLen; omega) (by omega) (by simp) ?_; intro v2 w1 hown1 hg1 hat1 hnil1; obtain ⟨vb, vd, rfl⟩ := own_slice hown1; have HO1 := Lib.hid hown1; have HG1 := Lib.hid hg1; clear hown1 hg1 hat1 hnil1)
    go_ret
    refine ⟨vb, vd, by simp, HAL.out.grown HG1.out (fun g hg => ?_), ?_⟩
    · have h1 : w.heap.size = g := Option.some.inj hg
      omega
    · have := HO1.out
      simpa using this
set_option maxHeartbeats 4000000 in
theorem clone_ix (v : Value) (n : Nat) (F : Nat → Nat → Value) (w : World) (hv : SlAt w v n 4 F) (h1 : ∀ i j, i < n → j < 4 → (F i j).oneCell' = true) (hb : n * 72 ≤ 140737488351232) :
    Calls Tryz.prog 71 #[v] w fun e w' => ∃ a c, e = .returned (.slice a n c) ∧ Up w w' ∧ w'.ownsRow w.heap.size 81 4 (.slice a n c) n (flat F n 4) := by
  obtain ⟨j0, z0, i0, i1, i2, i3, i4⟩ := rowT_ix.info
  have HV := Lib.hid hv
  have H1 := Lib.hid h1
  have hnI : (n : Int) ≤ 140737488351232 := by omega
  obtain ⟨⟨a, cap, rfl, h0, -⟩, -⟩ := id hv
  clear hv h1
  have q22 : ∀ (w : World) (a : Option Addr) (n c n' c' : Nat), (binOp .eql 45 (.slice a n c) (.slice none n' c')).run Tryz.prog w = .ok (.bool a.isNone) w := fun w a n c n' c' => Lib.run_eql_slice_nil w _ _ a n c n' c' Tryz.underlying45
  cases a with
  | none =>
    obtain rfl : n = 0 := h0 rfl
    clear h0
    go_enter Tryz.func71, Tryz.ntmps71
    go_wp2
    go_ret
    exact ⟨none, 0, rfl, Up.refl _, by have := World.ownsRow_nil w w.heap.size 81 4; simpa [flat] using this⟩
  | some ad =>
    clear h0
    have hs : ((Option.some ad).isNone) = false := rfl
    have HAL : Hid (Up w (w.alloc (.cells #[] 81))) := Lib.hid ((Up.refl w).alloc _)
    have HSL := Lib.hid (HV.out.up HAL.out)
    go_enter Tryz.func71, Tryz.ntmps71
    go_wp2_with (at_builtin; refine wpList_append_sl _ rfl _ _ 45 rfl w.heap.size 81 j0 _ 4 72 Tryz.underlying45 i0 i1 i2 i3 i4 (by decide) _ 0 [] rfl (World.ownsRow_made w #[] 0 (Nat.le_refl _) (Nat.zero_le _) rfl) (.slice (some ad) n cap) n _ rfl HSL.out H1.out (by unfold maxLen; omega) (by omega) (by simp) ?_; intro v2 w1 hown1 hg1 hat1 hnil1; obtain ⟨vb, vd, rfl⟩ := own_slice hown1; have HO1 := Lib.hid hown1; have HG1 := Lib.hid hg1; clear hown1 hg1 hat1 hnil1)
    go_ret
    refine ⟨vb, vd, by simp, HAL.out.grown HG1.out (fun g hg => ?_), ?_⟩
    · have h1 : w.heap.size = g := Option.some.inj hg
      omega
    · have := HO1.out
      simpa using this
set_option maxHeartbeats 4000000 in
theorem clone_ex (v : Value) (n : Nat) (F : Nat → Nat → Value) (w : World) (hv : SlAt w v n 13 F) (h1 : ∀ i j, i < n → j < 13 → (F i j).oneCell' = true) (hb : n * 160 ≤ 140737488351232) :
    Calls Tryz.prog 73 #[v] w fun e w' => ∃ a c, e = .returned (.slice a n c) ∧ Up w w' ∧ w'.ownsRow w.heap.size 48 13 (.slice a n c) n (flat F n 13) := by
  obtain ⟨j0, z0, i0, i1, i2, i3, i4⟩ := rowT_ex.info
  have HV := Lib.hid hv
  have H1 := Lib.hid h1
  have hnI : (n : Int) ≤ 140737488351232 := by omega
  obtain ⟨⟨a, cap, rfl, h0, -⟩, -⟩ := id hv
  clear hv h1
  have q22 : ∀ (w : World) (a : Option Addr) (n c n' c' : Nat), (binOp .eql 46 (.slice a n c) (.slice none n' c')).run Tryz.prog w = .ok (.bool a.isNone) w := fun w a n c n' c' => Lib.run_eql_slice_nil w _ _ a n c n' c' Tryz.underlying46
  cases a with
  | none =>
    obtain rfl : n = 0 := h0 rfl
    clear h0
    go_enter Tryz.func73, Tryz.ntmps73
    go_wp2
    go_ret
    exact ⟨none, 0, rfl, Up.refl _, by have := World.ownsRow_nil w w.heap.size 48 13; simpa [flat] using this⟩
  | some ad =>
    clear h0
    have hs : ((Option.some ad).isNone) = false := rfl
    have HAL : Hid (Up w (w.alloc (.cells #[] 48))) := Lib.hid ((Up.refl w).alloc _)
    have HSL := Lib.hid (HV.out.up HAL.out)
    go_enter Tryz.func73, Tryz.ntmps73
    go_wp2_with (at_builtin; refine wpList_append_sl _ rfl _ _ 46 rfl w.heap.size 48 j0 _ 13 160 Tryz.underlying46 i0 i1 i2 i3 i4 (by decide) _ 0 [] rfl (World.ownsRow_made w #[] 0 (Nat.le_refl _) (Nat.zero_le _) rfl) (.slice (some ad) n cap) n _ rfl HSL.out H1.out (by unfold maxLen; omega) (by omega) (by simp) ?_; intro v2 w1 hown1 hg1 hat1 hnil1; obtain ⟨vb, vd, rfl⟩ := own_slice hown1; have HO1 := Lib.hid hown1; have HG1 := Lib.hid hg1; clear hown1 hg1 hat1 hnil1)
    go_ret
    refine ⟨vb, vd, by simp, HAL.out.grown HG1.out (fun g hg => ?_), ?_⟩
    · have h1 : w.heap.size = g := Option.some.inj hg
      omega
    · have := HO1.out
      simpa using this
end Go.Proofs.YtpccaifhcmcegaaGreat
end

section
namespace Go.Proofs.YtpccaifhcmcegaaGreat
set_option linter.unusedSimpArgs false
open Go.ChangeShapes Go.WideShapes Go.ChangeAt Go.RowKit
set_option linter.unusedVariables false
set_option maxRecDepth 100000

theorem cloneF {α : Type} {k B : Nat} {R : Rel α} {E : TypeId} {w w' : World} {l : List α} {F : Nat → Nat → Value} {a : Option Addr} {c n : Nat} (hR : ∀ w w' f x, R w f x → R w' f x) (hn : l.length = n) (hl : ∀ i (hi : i < l.length), R w (F i) l[i]) (hb : l.length * B ≤ 140737488351232) (hB : 1 ≤ B)
    (ho : w'.ownsRow w.heap.size E k (.slice a n c) n (flat F n k)) : Fr (fun b => b < w.heap.size) (fun y => LsAt k B R y (.slice a n c) l) w' := by
  subst hn
  have : l.length * 1 ≤ l.length * B := Nat.mul_le_mul_left _ hB
  exact Fr.mkLs ⟨a, c, rfl, own_cap ho⟩ hb (own_fr ho (by omega) fun g hg hX => by have := own_base ho g hg; omega) fun i hi y _ => hR _ _ _ _ (hl i hi)
theorem clone_monF (v : Value) (l : List Mono) (n : Nat) (w : World) (hv : LsAt 2 24 monR w v l) (hn : l.length = n) :
    Calls Tryz.prog 58 #[v] w fun e w' => ∃ a c, e = .returned (.slice a n c) ∧ Up w w' ∧ Fr (fun b => b < w.heap.size) (fun y => LsAt 2 24 monR y (.slice a n c) l) w' := by
  obtain ⟨h1, hb, F, hS, hE⟩ := hv
  subst hn
  exact (clone_mon v l.length F w hS (fun i j hi hj => monR_k.one w _ _ (hE i hi) j hj) hb).mono fun e w' ⟨a, c, he, hu, ho⟩ => ⟨a, c, he, hu, cloneF (fun _ _ _ _ h => h) rfl hE hb (by decide) ho⟩
theorem clone_strF (v : Value) (l : List ByteArray) (n : Nat) (w : World) (hv : LsAt 1 16 strR w v l) (hn : l.length = n) :
    Calls Tryz.prog 35 #[v] w fun e w' => ∃ a c, e = .returned (.slice a n c) ∧ Up w w' ∧ Fr (fun b => b < w.heap.size) (fun y => LsAt 1 16 strR y (.slice a n c) l) w' := by
  obtain ⟨h1, hb, F, hS, hE⟩ := hv
  subst hn
  exact (clone_str v l.length F w hS (fun i j hi hj => strR_k.one w _ _ (hE i hi) j hj) hb).mono fun e w' ⟨a, c, he, hu, ho⟩ => ⟨a, c, he, hu, cloneF (fun _ _ _ _ h => h) rfl hE hb (by decide) ho⟩
theorem lin_info : (Tryz.prog.info? 44).map (·.size) = some 2 := by kernel_rfl
set_option maxHeartbeats 4000000 in
theorem p_copyForm (K : Int) (v : Value) (l : List Mono) (n : Nat) (w : World) (hv : LsAt 2 24 monR w v l) (hn : l.length = n) :
    Calls Tryz.prog 36 #[.agg #[.int .i64 K, v]] w fun e w' => ∃ a c, e = .returned (.agg #[.int .i64 K, .slice a n c]) ∧ Up w w' ∧ Fr (fun b => b < w.heap.size) (fun y => LsAt 2 24 monR y (.slice a n c) l) w' := by
  obtain ⟨va, vc, rfl, _⟩ := hv.shape
  rw [hn] at hv ⊢
  have hnI : (n : Int) ≤ 140737488351232 := by have := hv.bytes; rw [hn] at this; omega
  have HCL := Lib.hid (fun y (hy : Up w y) => clone_monF _ l n y (hv.up monR_up hy) hn)
  have HU0 := Lib.hid (((Up.refl w).alloc (.cells #[.int .i64 K, .slice va n vc] 44)).alloc (.cells #[.int .i64 0, .slice none 0 0] 44))
  have HB0 := Lib.hid (BoxC.new2 w (.cells #[.int .i64 K, .slice va n vc] 44) 44 #[.int .i64 0, .slice none 0 0])
  have HBA := Lib.hid ((BoxC.new w 44 #[.int .i64 K, .slice va n vc]).up ((Up.refl _).alloc (.cells #[.int .i64 0, .slice none 0 0] 44)))
  clear hv hn
  go_enter Tryz.func36, Tryz.ntmps36
  go_upto_region 1 with (fail)
  obtain ⟨W, hW⟩ : ∃ W, (w.alloc (.cells #[.int .i64 K, .slice va n vc] 44)).alloc (.cells #[.int .i64 0, .slice none 0 0] 44) = W := ⟨_, rfl⟩
  rw [hW] at HU0 HB0 HBA ⊢
  obtain ⟨c0, c1⟩ := HBA.out.two
  have cs := HBA.out.lt
  have ds := HB0.out.lt
  clear hW
  refine wp_region_mk 6 (fun _ _ v x => ∃ a c, v = .slice a n c ∧ Fr (fun b => b < W.heap.size) (fun y => LsAt 2 24 monR y (.slice a n c) l) x) (by kernel_rfl) (by kernel_rfl) ?_
  simp only [List.take_succ_cons, List.take_zero, List.drop_succ_cons, List.drop_zero]
  iterate 4 (refine wpMk_quiet anti_post (by kernel_rfl) ?_; go_big_quiet_step (fail); refine wpQuiet_nil ?_)
  refine wpMk_enter anti_post 58 #[.slice va n vc] (fun v x y ⟨a3, c3, h1, h2⟩ hu => ⟨a3, c3, h1, h2.up hu⟩) (by kernel_rfl) (fun x => by go_simp) (fun x hx => (HCL.out x (HU0.out.trans hx)).mono fun e w' ⟨a, c, h1, h2, h3⟩ => ⟨_, h1, h2, a, c, rfl, h3.less fun i _ h => Nat.lt_of_lt_of_le h hx.size⟩) ?_
  rintro v ⟨y, hy, a3, c3, rfl, -⟩
  simp only [Act.put, List.setIfInBounds_toArray, List.set_cons_succ, List.set_cons_zero]
  iterate 1 (refine wpMk_quiet anti_post (by kernel_rfl) ?_; go_big_quiet_step (fail); refine wpQuiet_nil ?_)
  refine wpMk_nil ?_
  rintro W2 hW2 ⟨_, a4, c4, hR1, hNL⟩
  simp only [Value.slice.injEq, true_and] at hR1
  obtain ⟨rfl, rfl⟩ := hR1
  have HNL := Lib.hid hNL
  have HW2 := Lib.hid hW2
  have HB2 := Lib.hid (HB0.out.up hW2)
  have HPT := Lib.hid (run_put (P := Tryz.prog) (k := 2) lin_info HB2.out (cs := #[.int .i64 K, .slice a3 n c3]) rfl rfl (by simp [Value.oneCell']))
  have HRB := Lib.hid (HB2.out.row #[.int .i64 K, .slice a3 n c3])
  clear hNL hW2 hy c0 c1 cs ds
  go_wp2_with (refine st_store HPT.out (by rfl) (by rfl) ?_)
  obtain ⟨f0, f1⟩ := HRB.out.two
  have HUR := Lib.hid ((HU0.out.trans HW2.out).grown' (setRow_by W2 (w.heap.size + 1) #[.int .i64 K, .slice a3 n c3]) (fun k e => by cases e; exact Nat.le_succ _))
  refine bodyPost_ret (v := .agg #[.int .i64 K, .slice a3 n c3]) (by simp [results, Tryz.results36, go_sem, f0, f1]) rfl ?_
  refine ⟨a3, c3, rfl, HUR.out, HNL.out.to (Kp.of_by (X := fun b => b < W.heap.size) (setRow_by W2 (w.heap.size + 1) #[.int .i64 K, .slice a3 n c3]) (fun g e => by cases e; exact HB0.out.lt)) (fun _ _ h => h) (fun i _ h => Nat.lt_of_lt_of_le h HU0.out.size)⟩
set_option maxHeartbeats 4000000 in
theorem ex_clo (K : Int) (v : Value) (l : List Mono) (n : Nat) (w : World) (hv : LsAt 2 24 monR w v l) (hn : l.length = n) :
    Calls Tryz.prog 60 #[.agg #[.int .i64 K, v]] w fun e w' => ∃ a c, e = .returned (.tuple #[.agg #[.int .i64 K, .slice a n c], .int .i64 0]) ∧ Up w w' ∧ Fr (fun b => b < w.heap.size) (fun y => LsAt 2 24 monR y (.slice a n c) l) w' := by
  obtain ⟨va, vc, rfl, _⟩ := hv.shape
  rw [hn] at hv ⊢
  have hnI : (n : Int) ≤ 140737488351232 := by have := hv.bytes; rw [hn] at this; omega
  have HCL := Lib.hid (fun y (hy : Up w y) => clone_monF _ l n y (hv.up monR_up hy) hn)
  have HU0 := Lib.hid (((Up.refl w).alloc (.cells #[.int .i64 K, .slice va n vc] 44)).alloc (.cells #[.int .i64 0, .slice none 0 0] 44))
  have HB0 := Lib.hid (BoxC.new2 w (.cells #[.int .i64 K, .slice va n vc] 44) 44 #[.int .i64 0, .slice none 0 0])
  have HBA := Lib.hid ((BoxC.new w 44 #[.int .i64 K, .slice va n vc]).up ((Up.refl _).alloc (.cells #[.int .i64 0, .slice none 0 0] 44)))
  clear hv hn
  go_enter Tryz.func60, Tryz.ntmps60
  go_upto_region 1 with (fail)
  obtain ⟨W, hW⟩ : ∃ W, (w.alloc (.cells #[.int .i64 K, .slice va n vc] 44)).alloc (.cells #[.int .i64 0, .slice none 0 0] 44) = W := ⟨_, rfl⟩
  rw [hW] at HU0 HB0 HBA ⊢
  obtain ⟨c0, c1⟩ := HBA.out.two
  have cs := HBA.out.lt
  have ds := HB0.out.lt
  clear hW
  refine wp_region_mk 6 (fun _ _ v x => ∃ a c, v = .slice a n c ∧ Fr (fun b => b < W.heap.size) (fun y => LsAt 2 24 monR y (.slice a n c) l) x) (by kernel_rfl) (by kernel_rfl) ?_
  simp only [List.take_succ_cons, List.take_zero, List.drop_succ_cons, List.drop_zero]
  iterate 4 (refine wpMk_quiet anti_post (by kernel_rfl) ?_; go_big_quiet_step (fail); refine wpQuiet_nil ?_)
  refine wpMk_enter anti_post 58 #[.slice va n vc] (fun v x y ⟨a3, c3, h1, h2⟩ hu => ⟨a3, c3, h1, h2.up hu⟩) (by kernel_rfl) (fun x => by go_simp) (fun x hx => (HCL.out x (HU0.out.trans hx)).mono fun e w' ⟨a, c, h1, h2, h3⟩ => ⟨_, h1, h2, a, c, rfl, h3.less fun i _ h => Nat.lt_of_lt_of_le h hx.size⟩) ?_
  rintro v ⟨y, hy, a3, c3, rfl, -⟩
  simp only [Act.put, List.setIfInBounds_toArray, List.set_cons_succ, List.set_cons_zero]
  iterate 1 (refine wpMk_quiet anti_post (by kernel_rfl) ?_; go_big_quiet_step (fail); refine wpQuiet_nil ?_)
  refine wpMk_nil ?_
  rintro W2 hW2 ⟨_, a4, c4, hR1, hNL⟩
  simp only [Value.slice.injEq, true_and] at hR1
  obtain ⟨rfl, rfl⟩ := hR1
  have HNL := Lib.hid hNL
  have HW2 := Lib.hid hW2
  have HB2 := Lib.hid (HB0.out.up hW2)
  have HPT := Lib.hid (run_put (P := Tryz.prog) (k := 2) lin_info HB2.out (cs := #[.int .i64 K, .slice a3 n c3]) rfl rfl (by simp [Value.oneCell']))
  have HRB := Lib.hid (HB2.out.row #[.int .i64 K, .slice a3 n c3])
  clear hNL hW2 hy c0 c1 cs ds
  go_wp2_with (refine st_store HPT.out (by rfl) (by rfl) ?_)
  obtain ⟨f0, f1⟩ := HRB.out.two
  have HUR := Lib.hid ((HU0.out.trans HW2.out).grown' (setRow_by W2 (w.heap.size + 1) #[.int .i64 K, .slice a3 n c3]) (fun k e => by cases e; exact Nat.le_succ _))
  refine bodyPost_ret (v := .tuple #[.agg #[.int .i64 K, .slice a3 n c3], .int .i64 0]) (by simp [results, Tryz.results60, go_sem, f0, f1]) rfl ?_
  refine ⟨a3, c3, rfl, HUR.out, HNL.out.to (Kp.of_by (X := fun b => b < W.heap.size) (setRow_by W2 (w.heap.size + 1) #[.int .i64 K, .slice a3 n c3]) (fun g e => by cases e; exact HB0.out.lt)) (fun _ _ h => h) (fun i _ h => Nat.lt_of_lt_of_le h HU0.out.size)⟩
end Go.Proofs.YtpccaifhcmcegaaGreat
end

section
namespace Go.Proofs.YtpccaifhcmcegaaGreat
set_option linter.unusedSimpArgs false
open Go.ChangeShapes Go.WideShapes Go.ChangeAt Go.RowKit
set_option linter.unusedVariables false
set_option maxRecDepth 100000

theorem lin_u : ∃ d, Tryz.prog.underlying 44 = some d ∧ d.isRow = true := ⟨_, Tryz.underlying44, rfl⟩
theorem ax_u : ∃ d, Tryz.prog.underlying 99 = some d ∧ d.isRow = true := ⟨_, Tryz.underlying99, rfl⟩
theorem ax_info : (Tryz.prog.info? 99).map (·.size) = some 3 := by kernel_rfl
theorem rowT_ax : RowT 39 99 3 48 := rowT_of (z := .agg #[.string ByteArray.empty, .int .i64 0, .slice none 0 0]) Tryz.underlying39 (by kernel_rfl) rfl (by decide)
theorem arr2 {cs : Array Value} (h : cs.size = 2) : cs = #[cs.getD 0 undef, cs.getD 1 undef] := by
  obtain ⟨l⟩ := cs
  match l, h with
  | [a0, a1], _ => rfl
theorem arr3 {cs : Array Value} (h : cs.size = 3) : cs = #[cs.getD 0 undef, cs.getD 1 undef, cs.getD 2 undef] := by
  obtain ⟨l⟩ := cs
  match l, h with
  | [a0, a1, a2], _ => rfl
/-- A form of a list. -/
theorem LsAt.ln {w : World} {a : Option Addr} {n c : Nat} {l : List LinT} (h : LsAt 2 32 linR w (.slice a n c) l) (i : Nat) (hi : i < l.length) :
    ∃ (g o : Nat) (va : Option Addr) (vc : Nat), a = some ⟨g, o, none⟩ ∧ g < w.heap.size ∧ LsAt 2 24 monR w (.slice va l[i].2.length vc) l[i].2 ∧ ∀ y, Up w y → (Instr.loadAt 44 (.pointer (some ⟨g, o + i * 2, none⟩))).run Tryz.prog y = .ok (.agg #[.int .i64 l[i].1, .slice va l[i].2.length vc]) y := by
  obtain ⟨g, o, cs, e, hg, hc, hr⟩ := h.row linR_k i hi
  have h0 : cs.getD 0 undef = .int .i64 l[i].1 := hc.2.1
  have h1 : LsAt 2 24 monR w (cs.getD 1 undef) l[i].2 := hc.2.2
  obtain ⟨va, vc, e1, _⟩ := h1.shape
  have e2 := arr2 hc.1
  rw [h0, e1] at e2
  rw [e1] at h1
  obtain ⟨d, u1, u2⟩ := lin_u
  exact ⟨g, o, va, vc, e, hg, h1, fun y hy => by have h3 := run_cs u1 u2 lin_info hc.1 (hr y hy); rw [e2] at h3; exact h3⟩
theorem LsAt.ax {w : World} {a : Option Addr} {n c : Nat} {l : List Ax} (h : LsAt 3 48 axR w (.slice a n c) l) (i : Nat) (hi : i < l.length) :
    ∃ (g o : Nat) (va : Option Addr) (vc : Nat), a = some ⟨g, o, none⟩ ∧ g < w.heap.size ∧ l[i].1.size ≤ maxLen ∧ LsAt 2 24 monR w (.slice va l[i].2.2.length vc) l[i].2.2 ∧ ∀ y, Up w y → (Instr.loadAt 99 (.pointer (some ⟨g, o + i * 3, none⟩))).run Tryz.prog y = .ok (.agg #[.string l[i].1, .int .i64 l[i].2.1, .slice va l[i].2.2.length vc]) y := by
  obtain ⟨g, o, cs, e, hg, hc, hr⟩ := h.row axR_k i hi
  have h0 : cs.getD 0 undef = .string l[i].1 := hc.2.1.1
  have h1 : cs.getD 1 undef = .int .i64 l[i].2.1 := hc.2.2.1
  have h2 : LsAt 2 24 monR w (cs.getD 2 undef) l[i].2.2 := hc.2.2.2
  obtain ⟨va, vc, e1, _⟩ := h2.shape
  have e2 := arr3 hc.1
  rw [h0, h1, e1] at e2
  rw [e1] at h2
  obtain ⟨d, u1, u2⟩ := ax_u
  exact ⟨g, o, va, vc, e, hg, hc.2.1.2, h2, fun y hy => by have h3 := run_cs u1 u2 ax_info hc.1 (hr y hy); rw [e2] at h3; exact h3⟩
theorem BoxC.three {w : World} {g : Nat} {t : TypeId} {a b c : Value} (h : BoxC w g t #[a, b, c]) : w.cell? ⟨g, 0, none⟩ = some a ∧ w.cell? ⟨g, 1, none⟩ = some b ∧ w.cell? ⟨g, 2, none⟩ = some c := ⟨cell_of_row _ _ _ _ _ _ h, cell_of_row _ _ _ _ _ _ h, cell_of_row _ _ _ _ _ _ h⟩
theorem takeS {α : Type} {l : List α} {i n : Nat} (hn : l.length = n) (hi : i < n) : l.take (i + 1) = l.take i ++ [l[i]'(by omega)] := List.take_succ_eq_append_getElem (by omega)
set_option maxHeartbeats 8000000 in
theorem p_copyForms (v : Value) (l : List LinT) (n : Nat) (w : World) (hv : LsAt 2 32 linR w v l) (hn : l.length = n) :
    Calls Tryz.prog 37 #[v] w fun e w' => ∃ a c, e = .returned (.slice a n c) ∧ Up w w' ∧ Fr (fun b => b < w.heap.size) (fun y => LsAt 2 32 linR y (.slice a n c) l) w' := by
  obtain ⟨la, lc, rfl, _⟩ := hv.shape
  rw [hn] at hv ⊢
  have hnI : (n : Int) ≤ 140737488351232 := by have := hv.bytes; rw [hn] at this; omega
  have HNB : Hid (n * 32 ≤ 140737488351232) := Lib.hid (by have := hv.bytes; rw [hn] at this; exact this)
  have HV := Lib.hid hv
  have HN := Lib.hid hn
  clear hv hn
  go_enter Tryz.func37, Tryz.ntmps37
  go_wp2
  go_loopw [3, 8] (fun ov iv wr => ∃ i : Nat, iv = .int .i64 i ∧ i ≤ n ∧ Up w wr ∧ OwnX 2 linR (fun b => b < w.heap.size) w.heap.size 44 wr ov (l.take i)) (fun _ iv _ => n - (intOf iv).toNat)
  case atStart => exact ⟨0, rfl, Nat.zero_le _, Up.refl _, OwnX.nil⟩
  case round =>
    rename World => wr
    obtain ⟨i, rfl, hi, hup, hrow⟩ := hrel
    have HU := Lib.hid hup
    obtain ⟨ra, rc, rfl⟩ := hrow.shape
    have HTL : Hid ((l.take i).length = i) := Lib.hid (by rw [List.length_take, HN.out]; omega)
    rw [HTL.out] at hrow ⊢
    have HR := Lib.hid hrow
    clear hup hrow
    by_cases hlt : i < n
    · have hltI : (i : Int) < n := by omega
      have hi1 : i < l.length := by rw [HN.out]; exact hlt
      have HTK := Lib.hid (takeS HN.out hlt)
      obtain ⟨g, o, va, vc, rfl, hg, hms, hld⟩ := HV.out.ln i hi1
      obtain ⟨x, hx⟩ : ∃ x, l[i]'hi1 = x := ⟨_, rfl⟩
      have HTK : Hid (l.take (i + 1) = l.take i ++ [x]) := Lib.hid (by rw [← hx]; exact HTK.out)
      rw [hx] at hms hld
      obtain ⟨m, hm⟩ : ∃ m, x.2.length = m := ⟨_, rfl⟩
      rw [hm] at hms hld
      have hmI : (m : Int) ≤ 140737488351232 := by have := hms.bytes; rw [hm] at this; omega
      have HLD := Lib.hid (hld wr HU.out)
      have hg' := Nat.lt_of_lt_of_le hg HU.out.size
      have HFL := Lib.hid (run_fill (P := Tryz.prog) (k := 2) lin_info wr (Z := #[.int .i64 0, .slice none 0 0]) (cs := #[.int .i64 x.1, .slice va m vc]) rfl rfl (by simp [Value.oneCell']))
      have HU1 := Lib.hid (HU.out.alloc (.cells #[.int .i64 x.1, .slice va m vc] 44))
      have HBX := Lib.hid (BoxC.new wr 44 #[.int .i64 x.1, .slice va m vc])
      have HCF := Lib.hid (fun y (hy : Up w y) => p_copyForm x.1 _ _ m y (hms.up monR_up hy) hm)
      have HR1 := Lib.hid (HR.out.up ((Up.refl wr).alloc (.cells #[.int .i64 x.1, .slice va m vc] 44)))
      clear hx hm hms hld hg
      go_wp2_with (first
        | (refine st_load HLD.out (by rfl) ?_)
        | (refine st_store HFL.out (by rfl) (by rfl) ?_)
        | (go_at_call 36; (with_reducible refine (HCF.out _ HU1.out).mono ?_); rintro e' W2 ⟨a4, c4, rfl, hy, hfr⟩; have HW2 := Lib.hid hy; have HF2 := Lib.hid hfr; clear hy hfr)
        | (refine st_build rowT_lin (by decide) (cs := #[.int .i64 x.1, .slice a4 m c4]) rfl (by rfl) ?_; have HB3 := Lib.hid (BoxC.new W2 44 #[.int .i64 x.1, .slice a4 m c4]); have HR3 := Lib.hid ((HR1.out.up HW2.out).up ((Up.refl W2).alloc (.cells #[.int .i64 x.1, .slice a4 m c4] 44)));
            have HX3 : Hid (Fr (fun b => b < w.heap.size ∨ (Value.slice ra i rc).ownBlock = some b) (fun y => linR y (fun j => (#[.int .i64 x.1, .slice a4 m c4] : Array Value).getD j undef) x) (W2.alloc (.cells #[.int .i64 x.1, .slice a4 m c4] 44))) := Lib.hid (((HF2.out.mono fun y h => ⟨rfl, h⟩).up ((Up.refl W2).alloc _)).less fun j _ hj => by rcases hj with hj | hj; exact Nat.lt_of_lt_of_le hj HU1.out.size; exact HR1.out.lt _ hj))
        | (at_builtin; refine st_app1 (b := W2.heap.size) rowT_lin linR_k HTL.out HR3.out rfl HB3.out HX3.out (by have := HNB.out; omega) (by decide) (by have := HU1.out.size; have := HW2.out.size; simp only [World.size_alloc] at *; omega) (by rfl) (by rfl) ?_; intro ua uc W4 h1 h2 h3; have HR4 := Lib.hid h1; have HG4 := Lib.hid h2; clear h1 h2 h3))
      go_roundw
      case rel =>
        refine ⟨i + 1, by go_num, by omega, ?_, by rw [HTK.out]; exact HR4.out⟩
        exact ((HU1.out.trans HW2.out).alloc _).grown' HG4.out fun k e => by have := HR.out.low k e; omega
      case measure => simp [intOf]; omega
    · obtain rfl : n = i := by omega
      have HTK : Hid (l.take n = l) := Lib.hid (List.take_of_length_le (by rw [HN.out]; exact Nat.le_refl _))
      rw [HTK.out] at HR
      go_wp2
      go_ret
      exact ⟨ra, rc, rfl, HU.out, HR.out.ls (fun _ h => h) (by decide) (by rw [HN.out]; exact HNB.out)⟩
set_option maxHeartbeats 8000000 in
theorem p_copyAxes (v : Value) (l : List Ax) (n : Nat) (w : World) (hv : LsAt 3 48 axR w v l) (hn : l.length = n) :
    Calls Tryz.prog 38 #[v] w fun e w' => ∃ a c, e = .returned (.slice a n c) ∧ Up w w' ∧ Fr (fun b => b < w.heap.size) (fun y => LsAt 3 48 axR y (.slice a n c) l) w' := by
  obtain ⟨la, lc, rfl, _⟩ := hv.shape
  rw [hn] at hv ⊢
  have hnI : (n : Int) ≤ 140737488351232 := by have := hv.bytes; rw [hn] at this; omega
  have HNB : Hid (n * 48 ≤ 140737488351232) := Lib.hid (by have := hv.bytes; rw [hn] at this; exact this)
  have HV := Lib.hid hv
  have HN := Lib.hid hn
  clear hv hn
  go_enter Tryz.func38, Tryz.ntmps38
  go_wp2
  go_loopw [3, 8] (fun ov iv wr => ∃ i : Nat, iv = .int .i64 i ∧ i ≤ n ∧ Up w wr ∧ OwnX 3 axR (fun b => b < w.heap.size) w.heap.size 99 wr ov (l.take i)) (fun _ iv _ => n - (intOf iv).toNat)
  case atStart => exact ⟨0, rfl, Nat.zero_le _, Up.refl _, OwnX.nil⟩
  case round =>
    rename World => wr
    obtain ⟨i, rfl, hi, hup, hrow⟩ := hrel
    have HU := Lib.hid hup
    obtain ⟨ra, rc, rfl⟩ := hrow.shape
    have HTL : Hid ((l.take i).length = i) := Lib.hid (by rw [List.length_take, HN.out]; omega)
    rw [HTL.out] at hrow ⊢
    have HR := Lib.hid hrow
    clear hup hrow
    by_cases hlt : i < n
    · have hltI : (i : Int) < n := by omega
      have hi1 : i < l.length := by rw [HN.out]; exact hlt
      have HTK := Lib.hid (takeS HN.out hlt)
      obtain ⟨g, o, va, vc, rfl, hg, hsz, hms, hld⟩ := HV.out.ax i hi1
      obtain ⟨x, hx⟩ : ∃ x, l[i]'hi1 = x := ⟨_, rfl⟩
      have HTK : Hid (l.take (i + 1) = l.take i ++ [x]) := Lib.hid (by rw [← hx]; exact HTK.out)
      rw [hx] at hms hld hsz
      obtain ⟨m, hm⟩ : ∃ m, x.2.2.length = m := ⟨_, rfl⟩
      rw [hm] at hms hld
      have hmI : (m : Int) ≤ 140737488351232 := by have := hms.bytes; rw [hm] at this; omega
      have HLD := Lib.hid (hld wr HU.out)
      have hg' := Nat.lt_of_lt_of_le hg HU.out.size
      have HFL := Lib.hid (run_fill (P := Tryz.prog) (k := 3) ax_info wr (Z := #[.string ByteArray.empty, .int .i64 0, .slice none 0 0]) (cs := #[.string x.1, .int .i64 x.2.1, .slice va m vc]) rfl rfl (by simp [Value.oneCell']))
      have HU1 := Lib.hid (HU.out.alloc (.cells #[.string x.1, .int .i64 x.2.1, .slice va m vc] 99))
      have HBX := Lib.hid (BoxC.new wr 99 #[.string x.1, .int .i64 x.2.1, .slice va m vc])
      have HCF := Lib.hid (fun y (hy : Up w y) => p_copyForm x.2.1 _ _ m y (hms.up monR_up hy) hm)
      have HR1 := Lib.hid (HR.out.up ((Up.refl wr).alloc (.cells #[.string x.1, .int .i64 x.2.1, .slice va m vc] 99)))
      have HSZ := Lib.hid hsz
      clear hsz
      clear hx hm hms hld hg
      go_upto_region 5 with (first
        | (refine st_load HLD.out (by rfl) ?_)
        | (refine st_store HFL.out (by rfl) (by rfl) ?_))
      obtain ⟨W, hW⟩ : ∃ W, wr.alloc (.cells #[.string x.1, .int .i64 x.2.1, .slice va m vc] 99) = W := ⟨_, rfl⟩
      rw [hW] at HU1 HBX HR1 ⊢
      obtain ⟨b0, b1, b2⟩ := HBX.out.three
      have bs := HBX.out.lt
      clear hW HFL HLD hg'
      refine wp_region_mk 8 (fun _ _ v z => ∃ a c, v = .agg #[.int .i64 x.2.1, .slice a m c] ∧ Fr (fun b => b < W.heap.size) (fun y => LsAt 2 24 monR y (.slice a m c) x.2.2) z) (by kernel_rfl) (by kernel_rfl) ?_
      simp only [List.take_succ_cons, List.take_zero, List.drop_succ_cons, List.drop_zero, Act.put]
      iterate 5 (refine wpMk_quiet anti_post (by kernel_rfl) ?_; go_big_quiet_step (fail); refine wpQuiet_nil ?_)
      refine wpMk_enter anti_post 36 #[.agg #[.int .i64 x.2.1, .slice va m vc]] (fun v z y ⟨a3, c3, h1, h2⟩ hu => ⟨a3, c3, h1, h2.up hu⟩) (by kernel_rfl) (fun z => by go_simp) (fun z hx => (HCF.out z (HU1.out.trans hx)).mono fun e w' ⟨a, c, h1, h2, h3⟩ => ⟨_, h1, h2, a, c, rfl, h3.less fun i _ h => Nat.lt_of_lt_of_le h hx.size⟩) ?_
      rintro v ⟨y, hy, a4, c4, rfl, -⟩
      simp only [Act.put, List.setIfInBounds_toArray, List.set_cons_succ, List.set_cons_zero]
      iterate 1 (refine wpMk_quiet anti_post (by kernel_rfl) ?_; go_big_quiet_step (fail); refine wpQuiet_nil ?_)
      refine wpMk_build anti_post rowT_ax (by decide) (cs := #[.string x.1, .int .i64 x.2.1, .slice a4 m c4]) rfl (by rfl) ?_
      intro bb hbb
      simp only [Act.put, List.setIfInBounds_toArray, List.set_cons_succ, List.set_cons_zero]
      refine wpMk_nil ?_
      rintro W2 hW2 ⟨⟨-, a5, c5, hR1, hNL⟩, hA⟩
      simp only [Value.agg.injEq, Array.mk.injEq, List.cons.injEq, Value.slice.injEq, true_and, and_true] at hR1
      obtain ⟨rfl, rfl⟩ := hR1
      have HA := Lib.hid hA
      have HF2 := Lib.hid hNL
      have HW2 := Lib.hid hW2
      have HR3 := Lib.hid (HR1.out.up hW2)
      have HX3 : Hid (Fr (fun b => b < w.heap.size ∨ (Value.slice ra i rc).ownBlock = some b) (fun y => axR y (fun j => (#[.string x.1, .int .i64 x.2.1, .slice a4 m c4] : Array Value).getD j undef) x) W2) := Lib.hid ((HF2.out.mono fun y h => ⟨⟨rfl, HSZ.out⟩, rfl, h⟩).less fun j _ hj => by rcases hj with hj | hj; exact Nat.lt_of_lt_of_le hj HU1.out.size; exact HR1.out.lt _ hj)
      clear hA hNL hW2 hbb hy b0 b1 b2 bs
      go_wp2_with (at_builtin; refine st_app1 (b := bb) rowT_ax axR_k HTL.out HR3.out rfl HA.out HX3.out (by have := HNB.out; omega) (by decide) (by have := HU1.out.size; have := HW2.out.size; omega) (by rfl) (by rfl) ?_; intro ua uc W4 h1 h2 h3; have HR4 := Lib.hid h1; have HG4 := Lib.hid h2; clear h1 h2 h3)
      go_roundw
      case rel =>
        refine ⟨i + 1, by go_num, by omega, ?_, by rw [HTK.out]; exact HR4.out⟩
        exact (HU1.out.trans HW2.out).grown' HG4.out fun k e => by have := HR.out.low k e; omega
      case measure => simp [intOf]; omega
    · obtain rfl : n = i := by omega
      have HTK : Hid (l.take n = l) := Lib.hid (List.take_of_length_le (by rw [HN.out]; exact Nat.le_refl _))
      rw [HTK.out] at HR
      go_wp2
      go_ret
      exact ⟨ra, rc, rfl, HU.out, HR.out.ls (fun _ h => h) (by decide) (by rw [HN.out]; exact HNB.out)⟩
end Go.Proofs.YtpccaifhcmcegaaGreat
end

section
namespace Go.Proofs.YtpccaifhcmcegaaGreat
set_option linter.unusedSimpArgs false
open Go.ChangeShapes Go.WideShapes Go.ChangeAt Go.RowKit
set_option linter.unusedVariables false
set_option maxRecDepth 100000

theorem setCells_by (g : Nat) : ∀ (vs : List Value) (o : Nat) (w : World), w.grownBy (w.setCells g o vs) (some g)
  | [], o, w => by_refl _ _
  | v :: r, o, w => by_trans (set_by w g o v) (setCells_by g r (o + 1) _)
/-- Some cells of element i replaced. -/
def putF (F : Nat → Nat → Value) (i o : Nat) (vs : List Value) : Nat → Nat → Value := fun i' j => if i' = i ∧ o ≤ j ∧ j < o + vs.length then vs.getD (j - o) undef else F i' j
theorem putF_other {F : Nat → Nat → Value} {i o : Nat} {vs : List Value} {i' : Nat} (h : i' ≠ i) : putF F i o vs i' = F i' := funext fun j => if_neg fun e => h e.1
theorem putF_out {F : Nat → Nat → Value} {i o : Nat} {vs : List Value} {i' j : Nat} (h : ¬ (o ≤ j ∧ j < o + vs.length)) : putF F i o vs i' j = F i' j := if_neg fun e => h e.2
theorem putF_in {F : Nat → Nat → Value} {i o : Nat} {vs : List Value} {j : Nat} (h1 : o ≤ j) (h2 : j < o + vs.length) : putF F i o vs i j = vs.getD (j - o) undef := if_pos ⟨rfl, h1, h2⟩
theorem flat_set {F : Nat → Nat → Value} {n k i j : Nat} (u : Value) (hi : i < n) (hj : j < k) : (flat F n k).set (i * k + j) u = flat (putF F i j [u]) n k := by
  have hk : 0 < k := by omega
  refine List.ext_getElem? fun q => ?_
  have hlt : i * k + j < n * k := by
    have : (i + 1) * k ≤ n * k := Nat.mul_le_mul_right k hi
    rw [Nat.add_mul] at this; omega
  by_cases hq : q < n * k
  · have hd : q / k < n := Nat.div_lt_of_lt_mul (by rw [Nat.mul_comm]; exact hq)
    have hm := Nat.mod_lt q hk
    have hqq : q / k * k + q % k = q := by rw [Nat.mul_comm]; exact Nat.div_add_mod q k
    have h3 := flat_get (putF F i j [u]) n k (q / k) (q % k) hd hm
    have h4 := flat_get F n k (q / k) (q % k) hd hm
    rw [hqq] at h3 h4
    rw [h3, List.getElem?_set]
    by_cases e : i * k + j = q
    · have e1 : q / k = i := by rw [← e, Nat.mul_comm, Nat.mul_add_div hk, Nat.div_eq_of_lt hj]; rfl
      have e2 : q % k = j := by rw [← e, Nat.mul_comm, Nat.mul_add_mod, Nat.mod_eq_of_lt hj]
      rw [if_pos e, if_pos (by rw [flat_length]; exact hlt), e1, e2, putF_in (Nat.le_refl _) (by simp), Nat.sub_self]; rfl
    · rw [if_neg e, h4]
      by_cases e1 : q / k = i
      · rw [putF_out]
        intro h
        simp only [List.length_singleton] at h
        have : q % k = j := by omega
        apply e
        rw [← e1, ← this]; exact hqq
      · rw [putF_other e1]
  · rw [List.getElem?_eq_none (by rw [List.length_set, flat_length]; omega), List.getElem?_eq_none (by rw [flat_length]; omega)]
theorem putF_cons {F : Nat → Nat → Value} {i o : Nat} {v : Value} {r : List Value} : putF (putF F i o [v]) i (o + 1) r = putF F i o (v :: r) := by
  funext i' j
  unfold putF
  by_cases h : i' = i
  · subst h
    by_cases h1 : o + 1 ≤ j ∧ j < o + 1 + r.length
    · rw [if_pos ⟨rfl, h1⟩, if_pos ⟨rfl, by omega, by rw [List.length_cons]; omega⟩, show j - o = (j - (o + 1)) + 1 by omega]; rfl
    · rw [if_neg fun e => h1 e.2]
      by_cases h2 : j = o
      · subst h2
        rw [if_pos ⟨rfl, Nat.le_refl _, by simp⟩, if_pos ⟨rfl, Nat.le_refl _, by rw [List.length_cons]; omega⟩, Nat.sub_self]; rfl
      · rw [if_neg fun e => by have := e.2; simp only [List.length_singleton] at this; omega, if_neg fun e => by have := e.2; rw [List.length_cons] at this; omega]
  · rw [if_neg fun e => h e.1, if_neg fun e => h e.1, if_neg fun e => h e.1]
/-- A row of the call's own, its cells as F says. -/
abbrev OwnF (w : World) (base : Nat) (E : TypeId) (k : Nat) (v : Value) (n : Nat) (F : Nat → Nat → Value) : Prop := w.ownsRow base E k v n (flat F n k)
section
variable {w w' : World} {base g n c k : Nat} {E : TypeId} {F : Nat → Nat → Value}
theorem OwnF.cell (h : OwnF w base E k (.slice (some ⟨g, 0, none⟩) n c) n F) {i j : Nat} (hi : i < n) (hj : j < k) : w.cell? ⟨g, i * k + j, none⟩ = some (F i j) := by
  obtain ⟨g', cap, e, _, _, _, _, hc⟩ := own_get h (by omega)
  cases e
  exact hc _ _ (flat_get F n k i j hi hj)
theorem OwnF.frozen (h : OwnF w base E k (.slice (some ⟨g, 0, none⟩) n c) n F) (hn : 0 < n) (o : Nat) : w.frozen? ⟨g, o, none⟩ = false := by
  obtain ⟨g', cap, e, _, _, _, hf, _⟩ := own_get h hn
  cases e
  exact hf o
theorem OwnF.put : ∀ (vs : List Value) {w : World} {F : Nat → Nat → Value} {i o : Nat}, OwnF w base E k (.slice (some ⟨g, 0, none⟩) n c) n F → i < n → o + vs.length ≤ k → OwnF (w.setCells g (i * k + o) vs) base E k (.slice (some ⟨g, 0, none⟩) n c) n (putF F i o vs)
  | [], w, F, i, o, h, _, _ => by
    have e : putF F i o [] = F := funext fun i' => funext fun j => if_neg fun e => by have := e.2.2; have := e.2.1; simp at *; omega
    rw [e]; exact h
  | v :: r, w, F, i, o, h, hi, ho => by
    rw [List.length_cons] at ho
    have hlt : i * k + o < (flat F n k).length := by
      rw [flat_length]
      have : (i + 1) * k ≤ n * k := Nat.mul_le_mul_right k hi
      rw [Nat.add_mul] at this; omega
    have h1 := own_set h (i * k + o) hlt v
    rw [flat_set v hi (by omega)] at h1
    have h2 := OwnF.put r h1 hi (o := o + 1) (by omega)
    rw [putF_cons] at h2
    exact h2
theorem OwnF.store {P : Program} {T : TypeId} (h : OwnF w base E k (.slice (some ⟨g, 0, none⟩) n c) n F) {i o : Nat} {cells : Array Value} (hi : i < n) (ho : o + cells.size ≤ k) (hT : (P.info? T).map (·.size) = some cells.size) (h1 : cells.all (·.oneCell') = true) :
    (Instr.storeAt T (.pointer (some ⟨g, i * k + o, none⟩)) (.agg cells)).run P w = .ok () (w.setCells g (i * k + o) cells.toList) :=
  run_storeAt_mid w g (i * k + o) T cells (fun j hj => ⟨by rw [Nat.add_assoc, h.cell hi (by omega)]; rfl, h.frozen (by omega) _⟩) hT h1
theorem OwnF.ptr {v : Value} (h : OwnF w base E k v n F) (hn : 0 < n) : ∃ g c, v = .slice (some ⟨g, 0, none⟩) n c ∧ base ≤ g ∧ g < w.heap.size := by
  obtain ⟨g, c, e, h1, h2, _⟩ := own_get h hn
  exact ⟨g, c, e, h1, h2⟩
/-- A box as a row of one. -/
theorem OwnF.box {b : Nat} {cs : Array Value} (h : BoxC w b E cs) (hs : cs.size = k) (hk : 0 < k) (hb : base ≤ b) : OwnF w base E k (.slice (some ⟨b, 0, none⟩) 1 1) 1 (fun _ j => cs.getD j undef) := by
  refine ⟨by rw [flat_length], .inr ⟨b, 1, cs, rfl, hb, h, Nat.le_refl _, by unfold maxLen; omega, by omega, ?_⟩⟩
  refine List.ext_getElem? fun q => ?_
  by_cases hq : q < 1 * k
  · have h3 := flat_get (fun _ j => cs.getD j undef) 1 k 0 q (by decide) (by omega)
    rw [Nat.zero_mul, Nat.zero_add] at h3
    rw [h3, List.getElem?_take_of_lt hq, Array.getElem?_toList, Array.getD_eq_getD_getElem?, Array.getElem?_eq_getElem (by omega)]; rfl
  · rw [List.getElem?_eq_none (by rw [List.length_take]; omega), List.getElem?_eq_none (by rw [flat_length]; omega)]
theorem OwnF.boxC {b : Nat} (h : OwnF w base E k (.slice (some ⟨b, 0, none⟩) 1 1) 1 F) : ∃ cs : Array Value, BoxC w b E cs ∧ cs.size = k ∧ ∀ j, j < k → cs.getD j undef = F 0 j := by
  rcases h.2 with ⟨hv, _⟩ | ⟨g', cap, cur, hv, hb, hg, hnc, hcm, hcs, ht⟩
  · cases hv
  · cases hv
    refine ⟨cur, hg, by omega, fun j hj => ?_⟩
    have h3 := flat_get F 1 k 0 j (by decide) hj
    rw [Nat.zero_mul, Nat.zero_add] at h3
    rw [← ht, List.getElem?_take_of_lt (by omega), Array.getElem?_toList] at h3
    rw [Array.getD_eq_getD_getElem?, h3]; rfl
end
end Go.Proofs.YtpccaifhcmcegaaGreat
end

section
namespace Go.Proofs.YtpccaifhcmcegaaGreat
open Go.ChangeShapes Go.WideShapes Go.ChangeAt Go.RowKit
set_option linter.unusedVariables false
set_option linter.unusedSimpArgs false

section
variable {P : Program} {ops : Array Oper} {md : Region.Mode} {w : World} {M : FuncId → Array Value → Value → World → Prop}

def wpAnyE (P : Program) (md : Region.Mode) (ops : Array Oper) (M : FuncId → Array Value → Value → World → Prop) (w : World) (n e : Nat) (L : Array Bool → Act → (World → Prop) → Prop) : Nat → Array Bool → Act → (World → Prop) → Prop
  | 0, listed, a, S => L listed a S
  | f + 1, listed, a, S =>
    Region.ready md ops listed ≠ [] ∧ ∀ i ∈ Region.ready md ops listed, (i < n ∧ mOp P ops M w i (wpAnyE P md ops M w n e L f (listed.setIfInBounds i true)) a S) ∨ (i = n ∧ f = 0 ∧ e ∈ Region.ready md ops listed)

/-- An operation that works on temporaries alone. -/
def PureO (P : Program) (o : Oper) : Prop := ∀ (ρ : Operand → Value) (x y x1 : World) (r : Next), (execOp ρ o).run P x = .ok r x1 → x1 = x ∧ (∃ v, r = .value v) ∧ (execOp ρ o).run P y = .ok r y
theorem pureO_extract {o : Oper} {t : Operand} {k : Nat} (h : o.op = .extract t k) : PureO P o := by
  intro ρ x y x1 r hr
  unfold execOp at hr ⊢
  simp only [h] at hr ⊢
  unfold Instr.extract at hr ⊢
  revert hr
  generalize ρ t = u
  intro hr
  cases u
  case tuple vs =>
    rcases hv : vs[k]? with _ | u
    · simp [hv, Sem.run_bind, go_sem, Result.andThen] at hr
    · simp only [hv, Sem.run_bind, Sem.run_pure, Result.andThen] at hr ⊢
      injection hr with h1 h2
      subst h1
      subst h2
      exact ⟨rfl, ⟨_, rfl⟩, rfl⟩
  all_goals exact absurd hr (by simp [Sem.run_bind, go_sem, Result.andThen])

def sinkEB (md : Region.Mode) (ops : Array Oper) (n e : Nat) : Bool :=
  (List.range n).all fun i => decide (i = e) || (List.range (n + 1)).any fun j => decide (i < j) && decide (j ≠ e) && Region.waitsFor md ops j i
theorem tail_waitsE {n e : Nat} {listed : Array Bool} (hs : sinkEB md ops n e = true) (hn : n < ops.size) (hen : e < n) (inv : HeadInv md ops n listed) (hr : n ∈ Region.ready md ops listed) :
    ∀ (d i : Nat), n - i = d → i < n → i ≠ e → listed.getD i true = true := by
  intro d
  induction d using Nat.strongRecOn with
  | _ d ih =>
    intro i hd hi hie
    cases hun : listed.getD i true with
    | true => rfl
    | false =>
    exfalso
    obtain ⟨_, ot, hot, hall⟩ := mem_ready.1 hr
    have h1 := List.all_eq_true.1 hs i (List.mem_range.2 hi)
    simp only [Bool.or_eq_true, decide_eq_true_eq] at h1
    obtain ⟨j, hj, hj2⟩ := List.any_eq_true.1 (h1.resolve_left hie)
    simp only [Bool.and_eq_true, decide_eq_true_eq] at hj2
    obtain ⟨oj, hoj, ed, he, hb, hon⟩ := Region.waitsFor_spec hj2.2
    have hjle : j ≤ n := by have := List.mem_range.1 hj; omega
    by_cases hjt : j = n
    · subst hjt
      have : oj = ot := Option.some.inj (hoj.symm.trans hot)
      subst this
      have h2 := hall ed he hb
      rw [hon, getD_both hun] at h2
      cases h2
    · have hjs : j < listed.size := by rw [inv.size]; omega
      have h3 := ih (n - j) (by omega) j rfl (by omega) hj2.1.2
      have h4 : listed.getD j false = true := by
        rw [Array.getD_eq_getD_getElem?, Array.getElem?_eq_getElem hjs] at h3 ⊢
        exact h3
      have h2 := inv.closed j oj hoj h4 ed he hb
      rw [hon, getD_both hun] at h2
      cases h2

theorem wpAnyE_first {n e i : Nat} {oi : Oper} {L : Array Bool → Act → (World → Prop) → Prop} (hi : ops[i]? = some oi) (hin : i < n) (hsel : ∀ (j : Nat) (o : Oper) cs b, ops[j]? = some o → o.op ≠ .select cs b)
    (hT : ∀ listed, HeadInv md ops n listed → ∀ j ∈ Region.ready md ops listed, j < n + 1) (hE : ∀ listed, HeadInv md ops n listed → n ∈ Region.ready md ops listed → ∀ k, k < n → k ≠ e → listed.getD k true = true)
    (hdone : ∀ listed a S, L listed a S → ∀ j ∈ Region.ready md ops listed, n ≤ j) :
    ∀ (f : Nat) (listed : Array Bool) (a : Act) (S : World → Prop), HeadInv md ops n listed →
      (∀ j oj, ops[j]? = some oj → j ≠ i → listed.getD j true = false → (∀ e ∈ oj.after, Region.binds md e = true → e.on ≠ i) → oi.apart ops oj = true) →
      i ∈ Region.ready md ops listed → mGood P ops M w oi a →
      (∀ v T, mRes P ops M w oi a v T → wpAnyE P md ops M w n e L f (listed.setIfInBounds i true) (a.put oi.dst v) (fun y => S y ∧ T y)) → wpAnyE P md ops M w n e L (f + 1) listed a S := by
  intro f
  induction f with
  | zero =>
    intro listed a S inv _ hr hy H
    have hun := (mem_ready.1 hr).1
    refine ⟨fun h => (by rw [h] at hr; cases hr), fun j hj => ?_⟩
    have hjn : j < n + 1 := hT listed inv j hj
    by_cases hjn' : j = n
    · subst hjn'
      refine .inr ⟨rfl, rfl, ?_⟩
      by_cases hie : i = e
      · subst hie; exact hr
      · have := hE listed inv hj i hin hie
        rw [hun] at this; cases this
    refine .inl ⟨by omega, ?_⟩
    by_cases hji : j = i
    · subst hji; unfold mOp; simp only [hi]; exact ⟨hy, H⟩
    · obtain ⟨v0, T0, hr0⟩ := hy.some
      have := hdone _ _ _ (H v0 T0 hr0) j (ready_mono hj hji)
      omega
  | succ f ih =>
    intro listed a S inv hfree hr hy H
    have hun := (mem_ready.1 hr).1
    refine ⟨fun h => (by rw [h] at hr; cases hr), fun j hj => ?_⟩
    have hjn : j < n + 1 := hT listed inv j hj
    by_cases hjn' : j = n
    · exfalso
      subst hjn'
      obtain ⟨v0, T0, hr0⟩ := hy.some
      have hji : j ≠ i := by omega
      rcases (H v0 T0 hr0).2 j (ready_mono hj hji) with ⟨h1, _⟩ | ⟨_, h2, h3⟩
      · omega
      · have hie : i ≠ e := fun h => by
          subst h
          have h5 := (mem_ready.1 h3).1
          have hs : i < listed.size := by rw [inv.size]; exact (Array.getElem?_eq_some_iff.1 hi).1
          rw [Array.getD_eq_getD_getElem?, Array.getElem?_setIfInBounds_self_of_lt hs] at h5
          cases h5
        have := hE listed inv hj i hin hie
        rw [hun] at this; cases this
    have hjn : j < n := by omega
    refine .inl ⟨hjn, ?_⟩
    by_cases hji : j = i
    · subst hji; unfold mOp; simp only [hi]; exact ⟨hy, H⟩
    · obtain ⟨hjun, oj, hoj, hall⟩ := mem_ready.1 hj
      have hnot : ∀ e ∈ oj.after, Region.binds md e = true → e.on ≠ i := fun e he hb heq => by
        have h1 := hall e he hb
        rw [heq, getD_both hun] at h1
        cases h1
      have h2 := mOp_put (K := wpAnyE P md ops M w n e L f ((listed.setIfInBounds i true).setIfInBounds j true)) hoj (hfree j oj hoj hji hjun hnot) (fun cs b => hsel i oi cs b hi) (fun cs b => hsel j oj cs b hoj) hy
        (fun v T hv => by
          rcases (H v T hv).2 j (ready_mono hj hji) with h3 | ⟨h3, _⟩
          · exact h3.2
          · omega)
      have hfree' : ∀ k ok, ops[k]? = some ok → k ≠ i → (listed.setIfInBounds j true).getD k true = false →
          (∀ e ∈ ok.after, Region.binds md e = true → e.on ≠ i) → oi.apart ops ok = true := fun k ok hk hki hun hno => by
        refine hfree k ok hk hki ?_ hno
        by_cases hjk : j = k
        · subst hjk; exact hjun
        · rw [getD_set_ne true hjk] at hun; exact hun
      refine mOp_mono (fun a' S' h3 => ih (listed.setIfInBounds j true) a' S' (inv.set hj hjn) hfree' (ready_mono hr (Ne.symm hji)) h3.1 ?_) h2
      rw [Array.setIfInBounds_comm _ _ hji]
      exact h3.2

theorem wpAnyE_lex {n e : Nat} {Lq : Act → (World → Prop) → Prop} {B : Array Bool → Prop} {lex : Nat → Nat → Array Bool → Bool}
    (h0B : ∀ k listed, lex 0 k listed = true → k = n → B listed) (h1B : ∀ f k listed, lex (f + 1) k listed = true → (Region.ready md ops listed).contains k = true ∧ Region.free md ops listed k = true ∧ lex f (k + 1) (listed.setIfInBounds k true) = true)
    (hsel : Region.noSelect ops = true) (hT : ∀ listed, HeadInv md ops n listed → ∀ j ∈ Region.ready md ops listed, j < n + 1) (hE : ∀ listed, HeadInv md ops n listed → n ∈ Region.ready md ops listed → ∀ k, k < n → k ≠ e → listed.getD k true = true)
    (hdone : ∀ listed, B listed → ∀ j ∈ Region.ready md ops listed, n ≤ j) :
    ∀ (l : List Oper) (k : Nat) (listed : Array Bool) (a : Act) (S : World → Prop), (∀ j, j < l.length → l[j]? = ops[k + j]?) → k + l.length = n → HeadInv md ops n listed →
    lex l.length k listed = true → wpMk P ops M w Lq l a S →
    wpAnyE P md ops M w n e (fun listed' a' S' => B listed' ∧ Lq a' S') l.length listed a S
  | [], k, listed, a, S, _, hk, _, hB, h => by
    have : k = n := by simpa using hk
    exact ⟨h0B k listed (by simpa using hB) this, h⟩
  | o :: l, k, listed, a, S, hl, hk, inv, hB, h => by
    have h0 : ops[k]? = some o := by simpa using (hl 0 (by simp)).symm
    obtain ⟨hr, hf, hB'⟩ := h1B _ _ _ hB
    have hkn : k < n := by simp only [List.length_cons] at hk; omega
    have hr' : k ∈ Region.ready md ops listed := by simpa using hr
    exact wpAnyE_first h0 hkn (Region.noSelect_spec hsel) hT hE (fun listed' a' S' hL => hdone _ hL.1) l.length listed a S inv (Region.free_spec h0 hf) hr' h.1
      (fun v T hv => wpAnyE_lex h0B h1B hsel hT hE hdone l (k + 1) _ _ _ (fun j hj => by have := hl (j + 1) (by simp; omega); simpa [Nat.add_assoc, Nat.add_comm 1 j] using this) (by simp only [List.length_cons] at hk; omega) (inv.set hr' hkn) hB' (h.2 v T hv))

/-- The last operation's outcome. -/
def OutL (P : Program) (ops : Array Oper) (K : Act → World → Prop) (o : Oper) (a : Act) (x : World) : Prop :=
  Region.wanted o (yielded ops a.tmps) = true ∧ ((∃ u x', (execOp a.eval o).run P x = .ok (.value u) x' ∧ K (a.put o.dst u) x') ∨ (∃ x', (execOp a.eval o).run P x = .ok .skip x' ∧ K (a.put o.dst undef) x'))
theorem OutL.wp {K : Act → World → Prop} {Q' : Exit → Act → World → Prop} {n : Nat} {o : Oper} {a : Act} {x : World} (ho : ops[n]? = some o) (h : OutL P ops K o a x) : wpOp P ops Q' n K a x := by
  obtain ⟨hw, h⟩ := h
  unfold wpOp
  simp only [ho]
  rw [if_pos hw]
  refine .inl ?_
  unfold Oper.wp
  rcases h with ⟨u, x', h1, h2⟩ | ⟨x', h1, h2⟩ <;> rw [h1] <;> exact h2

theorem OutL.mono {K K' : Act → World → Prop} {o : Oper} {a : Act} {x : World} (hk : ∀ a x, K a x → K' a x) (h : OutL P ops K o a x) : OutL P ops K' o a x :=
  ⟨h.1, h.2.imp (fun ⟨u, x', h1, h2⟩ => ⟨u, x', h1, hk _ _ h2⟩) (fun ⟨x', h1, h2⟩ => ⟨x', h1, hk _ _ h2⟩)⟩

theorem wpAny_of_headE {n e : Nat} {oe on : Oper} {tl : List Oper} {Lq : Act → World → Prop} {Q' : Exit → Act → World → Prop} (hsz : n < ops.size) (hen : e < n) (hoe : ops[e]? = some oe) (hon : ops[n]? = some on) (hpu : PureO P oe)
    (hsele : ∀ cs b, oe.op ≠ .select cs b) (hseln : ∀ cs b, on.op ≠ .select cs b) (hap : oe.apart ops on = true) (hE : ∀ listed, HeadInv md ops n listed → n ∈ Region.ready md ops listed → ∀ k, k < n → k ≠ e → listed.getD k true = true)
    (htl : ∀ j, tl[j]? = ops[n + 1 + j]?) (hTl : ∀ listed, HeadInv md ops n listed → listed.getD e true = false → ∀ j ∈ Region.ready md ops (listed.setIfInBounds n true), j < n)
    (hQ : ∀ a x, Lq a x → OutL P ops (wpList P ops Q' tl) on a x) :
    ∀ (f : Nat) (listed : Array Bool) (a : Act) (S : World → Prop) (x : World), HeadInv md ops n listed → Up w x → S x → KeptS S →
      wpAnyE P md ops M w n e (fun listed a' S' => Region.seqB md ops (tl.length + 1) n listed = true ∧ ∀ x, Up w x → S' x → Lq a' x) f listed a S → wpAny P md ops Q' (f + (tl.length + 1)) listed a x
  | 0, listed, a, S, x, inv, hx, hS, hk, h => by
    obtain ⟨hB, hL⟩ := h
    simp only [Region.seqB, Bool.and_eq_true, decide_eq_true_eq] at hB
    rw [Nat.zero_add]
    refine ⟨fun h1 => (by rw [hB.1] at h1; cases h1), fun i hi => ?_⟩
    rw [hB.1] at hi
    obtain rfl : i = n := by simpa using hi
    exact OutL.wp hon ((hQ a x (hL x hx hS)).mono fun a' x' h' => wpAny_of_seq tl (i + 1) _ a' x' htl hB.2 h')
  | f + 1, listed, a, S, x, inv, hx, hS, hk, h => by
    rw [show f + 1 + (tl.length + 1) = (f + (tl.length + 1)) + 1 by omega]
    refine ⟨fun h0 => absurd h0 h.1, fun i hi => ?_⟩
    rcases h.2 i hi with ⟨hin, hm⟩ | ⟨rfl, rfl, he⟩
    · exact wpOp_of_mOp hx hS hk (fun a' S' x' h1 h2 h3 h' => wpAny_of_headE hsz hen hoe hon hpu hsele hseln hap hE htl hTl hQ f _ a' S' x' (inv.set hi hin) h1 h2 h3 h') hm
    · have hall := hE listed inv hi
      have hlsz := inv.size
      obtain ⟨_, hm⟩ := (h.2 e he).resolve_right (fun h1 => by have := h1.1; omega)
      obtain ⟨p1, p2, p3⟩ := Oper.apart_spec hap
      have hun := (mem_ready.1 he).1
      have hready : ∀ j ∈ Region.ready md ops (listed.setIfInBounds i true), j = e := fun j hj => by
        have hjl := hTl listed inv hun j hj
        obtain ⟨g1, oj, hoj, _⟩ := mem_ready.1 hj
        rw [getD_set_ne true (by omega : i ≠ j)] at g1
        by_cases hje : j = e
        · exact hje
        · rw [hall j hjl hje] at g1; cases g1
      have her : e ∈ Region.ready md ops (listed.setIfInBounds i true) := ready_mono he (by omega)
      rw [Nat.zero_add]
      unfold mOp at hm
      simp only [hoe] at hm
      obtain ⟨hg, hn⟩ := hm
      by_cases hw : Region.wanted oe (yielded ops a.tmps) = true
      · have hgx := hg hw x hx
        obtain ⟨v, hv⟩ : ∃ v, ∀ y, (execOp a.eval oe).run P y = .ok (.value v) y := by
          revert hgx
          cases hr : (execOp a.eval oe).run P x with
          | halt _ _ => intro hgx; exact absurd hgx (by simp [GoodR])
          | ok r x1 =>
            intro _
            obtain ⟨_, ⟨v, rfl⟩, _⟩ := hpu a.eval x x x1 r hr
            exact ⟨v, fun y => (hpu a.eval x y x1 _ hr).2.2⟩
        have hsp : SPM P M w oe a v x := ⟨x, x, hx, by rw [hv]; exact ⟨rfl, rfl⟩, Up.refl x⟩
        have hr : mRes P ops M w oe a v (SPM P M w oe a v) := by unfold mRes; rw [if_pos hw]; exact ⟨⟨x, hx, hsp⟩, rfl⟩
        obtain ⟨hB, hL⟩ := hn v _ hr
        simp only [Region.seqB, Bool.and_eq_true, decide_eq_true_eq] at hB
        obtain ⟨hwn, ho⟩ := hQ _ x (hL x hx ⟨hS, hsp⟩)
        rw [wanted_put on a oe.dst v p1] at hwn
        rw [execOp_put on hseln a oe.dst v p1] at ho
        have hfin : ∀ u x', wpList P ops Q' tl ((a.put oe.dst v).put on.dst u) x' → wpAny P md ops Q' (tl.length + 1) (listed.setIfInBounds i true) (a.put on.dst u) x' := fun u x' hq => by
          refine ⟨fun h0 => (by rw [h0] at her; cases her), fun j hj => ?_⟩
          obtain rfl := hready j hj
          unfold wpOp
          simp only [hoe]
          rw [wanted_put oe a on.dst u p3, if_pos hw]
          refine .inl ?_
          unfold Oper.wp
          rw [execOp_put oe hsele a on.dst u p3, hv]
          refine wpAny_of_seq tl (i + 1) _ _ x' htl ?_ ?_
          · rw [Array.setIfInBounds_comm _ _ (by omega)]; exact hB.2
          · rw [Act.put_comm a v u p2] at hq; exact hq
        exact OutL.wp hon ⟨hwn, ho.imp (fun ⟨u, x', h1, h2⟩ => ⟨u, x', h1, hfin u x' h2⟩) (fun ⟨x', h1, h2⟩ => ⟨x', h1, hfin undef x' h2⟩)⟩
      · have hr : mRes P ops M w oe a undef (fun _ => True) := by unfold mRes; rw [if_neg hw]; exact ⟨rfl, rfl⟩
        obtain ⟨hB, hL⟩ := hn undef _ hr
        simp only [Region.seqB, Bool.and_eq_true, decide_eq_true_eq] at hB
        obtain ⟨hwn, ho⟩ := hQ _ x (hL x hx ⟨hS, trivial⟩)
        rw [wanted_put on a oe.dst undef p1] at hwn
        rw [execOp_put on hseln a oe.dst undef p1] at ho
        have hfin : ∀ u x', wpList P ops Q' tl ((a.put oe.dst undef).put on.dst u) x' → wpAny P md ops Q' (tl.length + 1) (listed.setIfInBounds i true) (a.put on.dst u) x' := fun u x' hq => by
          refine ⟨fun h0 => (by rw [h0] at her; cases her), fun j hj => ?_⟩
          obtain rfl := hready j hj
          unfold wpOp
          simp only [hoe]
          rw [wanted_put oe a on.dst u p3, if_neg hw]
          refine wpAny_of_seq tl (i + 1) _ _ x' htl ?_ ?_
          · rw [Array.setIfInBounds_comm _ _ (by omega)]; exact hB.2
          · rw [Act.put_comm a undef u p2] at hq; exact hq
        exact OutL.wp hon ⟨hwn, ho.imp (fun ⟨u, x', h1, h2⟩ => ⟨u, x', h1, hfin u x' h2⟩) (fun ⟨x', h1, h2⟩ => ⟨x', h1, hfin undef x' h2⟩)⟩

def chainEB (md : Region.Mode) (ops : Array Oper) (n e : Nat) : Bool :=
  (List.range ops.size).all fun t => decide (t ≤ n) || (Region.waitsFor md ops t (t - 1) && (decide (t ≠ n + 1) || Region.waitsFor md ops t e))
theorem chainEB_T {n e : Nat} (h : chainEB md ops n e = true) (listed : Array Bool) (inv : HeadInv md ops n listed) (j : Nat) (hj : j ∈ Region.ready md ops listed) : j < n + 1 := by
  obtain ⟨_, oj, hoj, hall⟩ := mem_ready.1 hj
  have hjs := (Array.getElem?_eq_some_iff.1 hoj).1
  have h1 := List.all_eq_true.1 h j (List.mem_range.2 hjs)
  simp only [Bool.or_eq_true, Bool.and_eq_true, decide_eq_true_eq] at h1
  rcases h1 with h1 | ⟨h1, _⟩
  · omega
  · obtain ⟨o', ho', ed, he, hb, hon⟩ := Region.waitsFor_spec h1
    have : o' = oj := Option.some.inj (ho'.symm.trans hoj)
    subst this
    have h2 := hall ed he hb
    by_cases hjn : j ≤ n
    · omega
    · rw [hon, getD_both (inv.tail (j - 1) (by omega) (by omega))] at h2
      cases h2
theorem chainEB_Tl {n e : Nat} (h : chainEB md ops n e = true) (hsz : n < ops.size) (hen : e < n) (listed : Array Bool) (inv : HeadInv md ops n listed) (hun : listed.getD e true = false) (j : Nat) (hj : j ∈ Region.ready md ops (listed.setIfInBounds n true)) : j < n := by
  obtain ⟨hu, oj, hoj, hall⟩ := mem_ready.1 hj
  have hjs := (Array.getElem?_eq_some_iff.1 hoj).1
  have hls := inv.size
  have h1 := List.all_eq_true.1 h j (List.mem_range.2 hjs)
  simp only [Bool.or_eq_true, Bool.and_eq_true, decide_eq_true_eq] at h1
  rcases h1 with h1 | ⟨h1, h1'⟩
  · by_cases hjn : j = n
    · subst hjn
      rw [Array.getD_eq_getD_getElem?, Array.getElem?_setIfInBounds_self_of_lt (by omega)] at hu
      cases hu
    · omega
  · by_cases hjn : j < n
    · exact hjn
    · exfalso
      by_cases hjn' : j = n
      · subst hjn'
        rw [Array.getD_eq_getD_getElem?, Array.getElem?_setIfInBounds_self_of_lt (by omega)] at hu
        cases hu
      by_cases hj1 : j = n + 1
      · subst hj1
        obtain ⟨o', ho', ed, he, hb, hon⟩ := Region.waitsFor_spec (h1'.resolve_left (by simp))
        have : o' = oj := Option.some.inj (ho'.symm.trans hoj)
        subst this
        have h2 := hall ed he hb
        rw [hon, getD_set_ne false (by omega : n ≠ e), getD_both hun] at h2
        cases h2
      · obtain ⟨o', ho', ed, he, hb, hon⟩ := Region.waitsFor_spec h1
        have : o' = oj := Option.some.inj (ho'.symm.trans hoj)
        subst this
        have h2 := hall ed he hb
        rw [hon, getD_set_ne false (by omega : n ≠ j - 1), getD_both (inv.tail (j - 1) (by omega) (by omega))] at h2
        cases h2

def lexLateB (md : Region.Mode) (ops : Array Oper) (n e : Nat) : Bool :=
  Region.noSelect ops && decide (n < ops.size) && decide (e < n) && sinkEB md ops n e && chainEB md ops n e && Region.lexHead md ops (ops.size - n) n 0 (Array.replicate ops.size false) &&
    (match ops[e]?, ops[n]? with
     | some oe, some on => oe.apart ops on && (match oe.op with | .extract _ _ => true | _ => false)
     | _, _ => false)

/-- The head once, in the text's order; then the last operation, given by its run; then what waits for it. -/
theorem wp_region_late {id : Nat} {Q : Exit → Act → World → Prop} {a : Act} {l : List Oper} (n e : Nat) (on : Oper) (M : FuncId → Array Value → Value → World → Prop) (hm : P.follows .mixedOrders = true) (hB : lexLateB .any l.toArray n e = true) (hon : l.toArray[n]? = some on)
    (h : wpMk P l.toArray M w (fun a' S => ∀ x, Up w x → S x → OutL P l.toArray (wpList P l.toArray Q (l.drop (n + 1))) on a' x) (l.take n) a (fun _ => True)) : (Code.region id l.toArray true).wp P Q a w := by
  simp only [lexLateB, Bool.and_eq_true, decide_eq_true_eq] at hB
  obtain ⟨⟨⟨⟨⟨⟨hsel, hsz⟩, hen⟩, hs⟩, hch⟩, hlex⟩, hx⟩ := hB
  obtain ⟨oe, hoe⟩ : ∃ oe, l.toArray[e]? = some oe := ⟨_, Array.getElem?_eq_getElem (by omega)⟩
  rw [hoe, hon] at hx
  simp only [Bool.and_eq_true] at hx
  obtain ⟨hap, hex⟩ := hx
  obtain ⟨t, k, hop⟩ : ∃ t k, oe.op = .extract t k := by
    revert hex
    cases oe.op <;> simp
  have hn' : n < l.length := by simpa using hsz
  have htl : (l.take n).length = n := by simp; omega
  have hdl : (l.drop (n + 1)).length + 1 = l.toArray.size - n := by simp; omega
  have inv0 : HeadInv .any l.toArray n (Array.replicate l.toArray.size false) :=
    ⟨by simp, fun j oj _ hl => (by rw [getD_replicate_false] at hl; cases hl), fun t _ ht => getD_in (by simpa using ht) (getD_replicate_false _ _)⟩
  have hE : ∀ listed, HeadInv .any l.toArray n listed → n ∈ Region.ready .any l.toArray listed → ∀ k, k < n → k ≠ e → listed.getD k true = true := fun listed inv hr k hk hke => tail_waitsE hs hsz hen inv hr _ k rfl hk hke
  have H := wpAnyE_lex (md := .any) (n := n) (e := e) (B := fun listed => Region.seqB .any l.toArray (l.toArray.size - n) n listed = true) (lex := Region.lexHead .any l.toArray (l.toArray.size - n))
    (fun k listed h1 h2 => by subst h2; simpa [Region.lexHead] using h1) (fun f k listed h1 => by
      simp only [Region.lexHead, Bool.and_eq_true] at h1; exact ⟨h1.1.1, h1.1.2, h1.2⟩) hsel (chainEB_T hch) hE
    (fun listed h1 => seqB_ready h1) (l.take n) 0 _ a _ (fun j hj => by
    have hj' : j < n := by rw [htl] at hj; exact hj
    simp [hj']) (by simpa using htl) inv0 (by rw [htl]; exact hlex) h
  rw [← hdl] at H
  refine wp_region_any hm ?_
  have := wpAny_of_headE (Q' := Q) (tl := l.drop (n + 1)) hsz hen hoe hon (pureO_extract hop) (Region.noSelect_spec hsel e oe · · hoe) (Region.noSelect_spec hsel n on · · hon) hap hE (fun j => by simp [List.getElem?_drop]) (chainEB_Tl hch hsz hen) (Lq := fun a' x => OutL P l.toArray (wpList P l.toArray Q (l.drop (n + 1))) on a' x) (fun a' x hq => hq) _ _ _ _ { w with drawn := w.drawn + 1 } inv0 (Up.refl w).drew trivial (fun _ _ _ _ => trivial) H
  rw [htl, hdl, show n + (l.toArray.size - n) = l.toArray.size by omega] at this
  exact this
end
end Go.Proofs.YtpccaifhcmcegaaGreat
end
