/-
  Joined by a program: DgC, DgC1, DgC2, DgC3.
-/
import Derived.Test.YtpccaifhcmcegaaDgFr
import Derived.Test.YtpccaifhcmcegaaDgLp

section
namespace Go.Proofs.Ytpccaifhcmcegaa
set_option linter.unusedSimpArgs false
open Go.ChangeShapes Go.WideShapes Go.ChangeAt Go.RowKit
set_option linter.unusedVariables false
set_option maxRecDepth 100000

theorem SlAt.emp (w : World) (a : Option Addr) (c : Nat) {k : Nat} {f : Nat → Nat → Value} : SlAt w (.slice a 0 c) 0 k f := ⟨⟨a, c, rfl, fun _ => rfl, fun x _ h => absurd h (by omega)⟩, by decide⟩
theorem rowT_mon : RowT 51 102 2 24 := rowT_of (z := .agg #[.string ByteArray.empty, .int .i64 0]) Try.underlying51 (by kernel_rfl) rfl (by decide)
theorem rowT_lin : RowT 61 53 2 32 := rowT_of (z := .agg #[.int .i64 0, .slice none 0 0]) Try.underlying61 (by kernel_rfl) rfl (by decide)
theorem rowT_ix : RowT 54 80 4 72 := rowT_of (z := .agg #[.int .i64 0, .slice none 0 0, .string ByteArray.empty, .slice none 0 0]) Try.underlying54 (by kernel_rfl) rfl (by decide)
set_option maxHeartbeats 4000000 in
theorem clone_str (v : Value) (n : Nat) (F : Nat → Nat → Value) (w : World) (hv : SlAt w v n 1 F) (h1 : ∀ i j, i < n → j < 1 → (F i j).oneCell' = true) (hb : n * 16 ≤ 140737488351232) :
    Calls Try.prog 47 #[v] w fun e w' => ∃ a c, e = .returned (.slice a n c) ∧ Up w w' ∧ w'.ownsRow w.heap.size 9 1 (.slice a n c) n (flat F n 1) := by
  obtain ⟨j0, z0, i0, i1, i2, i3, i4⟩ := rowT_str.info
  have HV := Lib.hid hv
  have H1 := Lib.hid h1
  have hnI : (n : Int) ≤ 140737488351232 := by omega
  obtain ⟨⟨a, cap, rfl, h0, -⟩, -⟩ := id hv
  clear hv h1
  have q22 : ∀ (w : World) (a : Option Addr) (n c n' c' : Nat), (binOp .eql 22 (.slice a n c) (.slice none n' c')).run Try.prog w = .ok (.bool a.isNone) w := fun w a n c n' c' => Lib.run_eql_slice_nil w _ _ a n c n' c' Try.underlying22
  cases a with
  | none =>
    obtain rfl : n = 0 := h0 rfl
    clear h0
    go_enter Try.func47, Try.ntmps47
    go_wp2
    go_ret
    exact ⟨none, 0, rfl, Up.refl _, by have := World.ownsRow_nil w w.heap.size 9 1; simpa [flat] using this⟩
  | some ad =>
    clear h0
    have hs : ((Option.some ad).isNone) = false := rfl
    have HAL : Hid (Up w (w.alloc (.cells #[] 9))) := Lib.hid ((Up.refl w).alloc _)
    have HSL := Lib.hid (HV.out.up HAL.out)
    go_enter Try.func47, Try.ntmps47
    go_wp2_with (at_builtin; refine wpList_append_sl _ rfl _ _ 22 rfl w.heap.size 9 j0 _ 1 16 Try.underlying22 i0 i1 i2 i3 i4 (by decide) _ 0 [] rfl (World.ownsRow_made w #[] 0 (Nat.le_refl _) (Nat.zero_le _) rfl) (.slice (some ad) n cap) n _ rfl HSL.out H1.out (by unfold maxLen; omega) (by omega) (by simp) ?_; intro v2 w1 hown1 hg1 hat1 hnil1; obtain ⟨vb, vd, rfl⟩ := own_slice hown1; have HO1 := Lib.hid hown1; have HG1 := Lib.hid hg1; clear hown1 hg1 hat1 hnil1)
    go_ret
    refine ⟨vb, vd, by simp, HAL.out.grown HG1.out (fun g hg => ?_), ?_⟩
    · have h1 : w.heap.size = g := Option.some.inj hg
      omega
    · have := HO1.out
      simpa using this
set_option maxHeartbeats 4000000 in
theorem clone_mon (v : Value) (n : Nat) (F : Nat → Nat → Value) (w : World) (hv : SlAt w v n 2 F) (h1 : ∀ i j, i < n → j < 2 → (F i j).oneCell' = true) (hb : n * 24 ≤ 140737488351232) :
    Calls Try.prog 62 #[v] w fun e w' => ∃ a c, e = .returned (.slice a n c) ∧ Up w w' ∧ w'.ownsRow w.heap.size 102 2 (.slice a n c) n (flat F n 2) := by
  obtain ⟨j0, z0, i0, i1, i2, i3, i4⟩ := rowT_mon.info
  have HV := Lib.hid hv
  have H1 := Lib.hid h1
  have hnI : (n : Int) ≤ 140737488351232 := by omega
  obtain ⟨⟨a, cap, rfl, h0, -⟩, -⟩ := id hv
  clear hv h1
  have q22 : ∀ (w : World) (a : Option Addr) (n c n' c' : Nat), (binOp .eql 51 (.slice a n c) (.slice none n' c')).run Try.prog w = .ok (.bool a.isNone) w := fun w a n c n' c' => Lib.run_eql_slice_nil w _ _ a n c n' c' Try.underlying51
  cases a with
  | none =>
    obtain rfl : n = 0 := h0 rfl
    clear h0
    go_enter Try.func62, Try.ntmps62
    go_wp2
    go_ret
    exact ⟨none, 0, rfl, Up.refl _, by have := World.ownsRow_nil w w.heap.size 102 2; simpa [flat] using this⟩
  | some ad =>
    clear h0
    have hs : ((Option.some ad).isNone) = false := rfl
    have HAL : Hid (Up w (w.alloc (.cells #[] 102))) := Lib.hid ((Up.refl w).alloc _)
    have HSL := Lib.hid (HV.out.up HAL.out)
    go_enter Try.func62, Try.ntmps62
    go_wp2_with (at_builtin; refine wpList_append_sl _ rfl _ _ 51 rfl w.heap.size 102 j0 _ 2 24 Try.underlying51 i0 i1 i2 i3 i4 (by decide) _ 0 [] rfl (World.ownsRow_made w #[] 0 (Nat.le_refl _) (Nat.zero_le _) rfl) (.slice (some ad) n cap) n _ rfl HSL.out H1.out (by unfold maxLen; omega) (by omega) (by simp) ?_; intro v2 w1 hown1 hg1 hat1 hnil1; obtain ⟨vb, vd, rfl⟩ := own_slice hown1; have HO1 := Lib.hid hown1; have HG1 := Lib.hid hg1; clear hown1 hg1 hat1 hnil1)
    go_ret
    refine ⟨vb, vd, by simp, HAL.out.grown HG1.out (fun g hg => ?_), ?_⟩
    · have h1 : w.heap.size = g := Option.some.inj hg
      omega
    · have := HO1.out
      simpa using this
set_option maxHeartbeats 4000000 in
theorem clone_lin (v : Value) (n : Nat) (F : Nat → Nat → Value) (w : World) (hv : SlAt w v n 2 F) (h1 : ∀ i j, i < n → j < 2 → (F i j).oneCell' = true) (hb : n * 32 ≤ 140737488351232) :
    Calls Try.prog 70 #[v] w fun e w' => ∃ a c, e = .returned (.slice a n c) ∧ Up w w' ∧ w'.ownsRow w.heap.size 53 2 (.slice a n c) n (flat F n 2) := by
  obtain ⟨j0, z0, i0, i1, i2, i3, i4⟩ := rowT_lin.info
  have HV := Lib.hid hv
  have H1 := Lib.hid h1
  have hnI : (n : Int) ≤ 140737488351232 := by omega
  obtain ⟨⟨a, cap, rfl, h0, -⟩, -⟩ := id hv
  clear hv h1
  have q22 : ∀ (w : World) (a : Option Addr) (n c n' c' : Nat), (binOp .eql 61 (.slice a n c) (.slice none n' c')).run Try.prog w = .ok (.bool a.isNone) w := fun w a n c n' c' => Lib.run_eql_slice_nil w _ _ a n c n' c' Try.underlying61
  cases a with
  | none =>
    obtain rfl : n = 0 := h0 rfl
    clear h0
    go_enter Try.func70, Try.ntmps70
    go_wp2
    go_ret
    exact ⟨none, 0, rfl, Up.refl _, by have := World.ownsRow_nil w w.heap.size 53 2; simpa [flat] using this⟩
  | some ad =>
    clear h0
    have hs : ((Option.some ad).isNone) = false := rfl
    have HAL : Hid (Up w (w.alloc (.cells #[] 53))) := Lib.hid ((Up.refl w).alloc _)
    have HSL := Lib.hid (HV.out.up HAL.out)
    go_enter Try.func70, Try.ntmps70
    go_wp2_with (at_builtin; refine wpList_append_sl _ rfl _ _ 61 rfl w.heap.size 53 j0 _ 2 32 Try.underlying61 i0 i1 i2 i3 i4 (by decide) _ 0 [] rfl (World.ownsRow_made w #[] 0 (Nat.le_refl _) (Nat.zero_le _) rfl) (.slice (some ad) n cap) n _ rfl HSL.out H1.out (by unfold maxLen; omega) (by omega) (by simp) ?_; intro v2 w1 hown1 hg1 hat1 hnil1; obtain ⟨vb, vd, rfl⟩ := own_slice hown1; have HO1 := Lib.hid hown1; have HG1 := Lib.hid hg1; clear hown1 hg1 hat1 hnil1)
    go_ret
    refine ⟨vb, vd, by simp, HAL.out.grown HG1.out (fun g hg => ?_), ?_⟩
    · have h1 : w.heap.size = g := Option.some.inj hg
      omega
    · have := HO1.out
      simpa using this
set_option maxHeartbeats 4000000 in
theorem clone_ix (v : Value) (n : Nat) (F : Nat → Nat → Value) (w : World) (hv : SlAt w v n 4 F) (h1 : ∀ i j, i < n → j < 4 → (F i j).oneCell' = true) (hb : n * 72 ≤ 140737488351232) :
    Calls Try.prog 69 #[v] w fun e w' => ∃ a c, e = .returned (.slice a n c) ∧ Up w w' ∧ w'.ownsRow w.heap.size 80 4 (.slice a n c) n (flat F n 4) := by
  obtain ⟨j0, z0, i0, i1, i2, i3, i4⟩ := rowT_ix.info
  have HV := Lib.hid hv
  have H1 := Lib.hid h1
  have hnI : (n : Int) ≤ 140737488351232 := by omega
  obtain ⟨⟨a, cap, rfl, h0, -⟩, -⟩ := id hv
  clear hv h1
  have q22 : ∀ (w : World) (a : Option Addr) (n c n' c' : Nat), (binOp .eql 54 (.slice a n c) (.slice none n' c')).run Try.prog w = .ok (.bool a.isNone) w := fun w a n c n' c' => Lib.run_eql_slice_nil w _ _ a n c n' c' Try.underlying54
  cases a with
  | none =>
    obtain rfl : n = 0 := h0 rfl
    clear h0
    go_enter Try.func69, Try.ntmps69
    go_wp2
    go_ret
    exact ⟨none, 0, rfl, Up.refl _, by have := World.ownsRow_nil w w.heap.size 80 4; simpa [flat] using this⟩
  | some ad =>
    clear h0
    have hs : ((Option.some ad).isNone) = false := rfl
    have HAL : Hid (Up w (w.alloc (.cells #[] 80))) := Lib.hid ((Up.refl w).alloc _)
    have HSL := Lib.hid (HV.out.up HAL.out)
    go_enter Try.func69, Try.ntmps69
    go_wp2_with (at_builtin; refine wpList_append_sl _ rfl _ _ 54 rfl w.heap.size 80 j0 _ 4 72 Try.underlying54 i0 i1 i2 i3 i4 (by decide) _ 0 [] rfl (World.ownsRow_made w #[] 0 (Nat.le_refl _) (Nat.zero_le _) rfl) (.slice (some ad) n cap) n _ rfl HSL.out H1.out (by unfold maxLen; omega) (by omega) (by simp) ?_; intro v2 w1 hown1 hg1 hat1 hnil1; obtain ⟨vb, vd, rfl⟩ := own_slice hown1; have HO1 := Lib.hid hown1; have HG1 := Lib.hid hg1; clear hown1 hg1 hat1 hnil1)
    go_ret
    refine ⟨vb, vd, by simp, HAL.out.grown HG1.out (fun g hg => ?_), ?_⟩
    · have h1 : w.heap.size = g := Option.some.inj hg
      omega
    · have := HO1.out
      simpa using this
set_option maxHeartbeats 4000000 in
theorem clone_ex (v : Value) (n : Nat) (F : Nat → Nat → Value) (w : World) (hv : SlAt w v n 13 F) (h1 : ∀ i j, i < n → j < 13 → (F i j).oneCell' = true) (hb : n * 160 ≤ 140737488351232) :
    Calls Try.prog 71 #[v] w fun e w' => ∃ a c, e = .returned (.slice a n c) ∧ Up w w' ∧ w'.ownsRow w.heap.size 57 13 (.slice a n c) n (flat F n 13) := by
  obtain ⟨j0, z0, i0, i1, i2, i3, i4⟩ := rowT_ex.info
  have HV := Lib.hid hv
  have H1 := Lib.hid h1
  have hnI : (n : Int) ≤ 140737488351232 := by omega
  obtain ⟨⟨a, cap, rfl, h0, -⟩, -⟩ := id hv
  clear hv h1
  have q22 : ∀ (w : World) (a : Option Addr) (n c n' c' : Nat), (binOp .eql 55 (.slice a n c) (.slice none n' c')).run Try.prog w = .ok (.bool a.isNone) w := fun w a n c n' c' => Lib.run_eql_slice_nil w _ _ a n c n' c' Try.underlying55
  cases a with
  | none =>
    obtain rfl : n = 0 := h0 rfl
    clear h0
    go_enter Try.func71, Try.ntmps71
    go_wp2
    go_ret
    exact ⟨none, 0, rfl, Up.refl _, by have := World.ownsRow_nil w w.heap.size 57 13; simpa [flat] using this⟩
  | some ad =>
    clear h0
    have hs : ((Option.some ad).isNone) = false := rfl
    have HAL : Hid (Up w (w.alloc (.cells #[] 57))) := Lib.hid ((Up.refl w).alloc _)
    have HSL := Lib.hid (HV.out.up HAL.out)
    go_enter Try.func71, Try.ntmps71
    go_wp2_with (at_builtin; refine wpList_append_sl _ rfl _ _ 55 rfl w.heap.size 57 j0 _ 13 160 Try.underlying55 i0 i1 i2 i3 i4 (by decide) _ 0 [] rfl (World.ownsRow_made w #[] 0 (Nat.le_refl _) (Nat.zero_le _) rfl) (.slice (some ad) n cap) n _ rfl HSL.out H1.out (by unfold maxLen; omega) (by omega) (by simp) ?_; intro v2 w1 hown1 hg1 hat1 hnil1; obtain ⟨vb, vd, rfl⟩ := own_slice hown1; have HO1 := Lib.hid hown1; have HG1 := Lib.hid hg1; clear hown1 hg1 hat1 hnil1)
    go_ret
    refine ⟨vb, vd, by simp, HAL.out.grown HG1.out (fun g hg => ?_), ?_⟩
    · have h1 : w.heap.size = g := Option.some.inj hg
      omega
    · have := HO1.out
      simpa using this
end Go.Proofs.Ytpccaifhcmcegaa
end

section
namespace Go.Proofs.Ytpccaifhcmcegaa
set_option linter.unusedSimpArgs false
open Go.ChangeShapes Go.WideShapes Go.ChangeAt Go.RowKit
set_option linter.unusedVariables false
set_option maxRecDepth 100000

theorem cloneF {α : Type} {k B : Nat} {R : Rel α} {E : TypeId} {w w' : World} {l : List α} {F : Nat → Nat → Value} {a : Option Addr} {c n : Nat} (hR : ∀ w w' f x, R w f x → R w' f x) (hn : l.length = n) (hl : ∀ i (hi : i < l.length), R w (F i) l[i]) (hb : l.length * B ≤ 140737488351232) (hB : 1 ≤ B)
    (ho : w'.ownsRow w.heap.size E k (.slice a n c) n (flat F n k)) : Fr (fun b => b < w.heap.size) (fun y => LsAt k B R y (.slice a n c) l) w' := by
  subst hn
  have : l.length * 1 ≤ l.length * B := Nat.mul_le_mul_left _ hB
  exact Fr.mkLs ⟨a, c, rfl, own_cap ho⟩ hb (own_fr ho (by omega) fun g hg hX => by have := own_base ho g hg; omega) fun i hi y _ => hR _ _ _ _ (hl i hi)
theorem clone_monF (v : Value) (l : List Mono) (n : Nat) (w : World) (hv : LsAt 2 24 monR w v l) (hn : l.length = n) :
    Calls Try.prog 62 #[v] w fun e w' => ∃ a c, e = .returned (.slice a n c) ∧ Up w w' ∧ Fr (fun b => b < w.heap.size) (fun y => LsAt 2 24 monR y (.slice a n c) l) w' := by
  obtain ⟨h1, hb, F, hS, hE⟩ := hv
  subst hn
  exact (clone_mon v l.length F w hS (fun i j hi hj => monR_k.one w _ _ (hE i hi) j hj) hb).mono fun e w' ⟨a, c, he, hu, ho⟩ => ⟨a, c, he, hu, cloneF (fun _ _ _ _ h => h) rfl hE hb (by decide) ho⟩
theorem clone_strF (v : Value) (l : List ByteArray) (n : Nat) (w : World) (hv : LsAt 1 16 strR w v l) (hn : l.length = n) :
    Calls Try.prog 47 #[v] w fun e w' => ∃ a c, e = .returned (.slice a n c) ∧ Up w w' ∧ Fr (fun b => b < w.heap.size) (fun y => LsAt 1 16 strR y (.slice a n c) l) w' := by
  obtain ⟨h1, hb, F, hS, hE⟩ := hv
  subst hn
  exact (clone_str v l.length F w hS (fun i j hi hj => strR_k.one w _ _ (hE i hi) j hj) hb).mono fun e w' ⟨a, c, he, hu, ho⟩ => ⟨a, c, he, hu, cloneF (fun _ _ _ _ h => h) rfl hE hb (by decide) ho⟩
theorem lin_info : (Try.prog.info? 53).map (·.size) = some 2 := by kernel_rfl
set_option maxHeartbeats 4000000 in
theorem p_copyForm (K : Int) (v : Value) (l : List Mono) (n : Nat) (w : World) (hv : LsAt 2 24 monR w v l) (hn : l.length = n) :
    Calls Try.prog 48 #[.agg #[.int .i64 K, v]] w fun e w' => ∃ a c, e = .returned (.agg #[.int .i64 K, .slice a n c]) ∧ Up w w' ∧ Fr (fun b => b < w.heap.size) (fun y => LsAt 2 24 monR y (.slice a n c) l) w' := by
  obtain ⟨va, vc, rfl, _⟩ := hv.shape
  rw [hn] at hv ⊢
  have hnI : (n : Int) ≤ 140737488351232 := by have := hv.bytes; rw [hn] at this; omega
  have HCL := Lib.hid (fun y (hy : Up w y) => clone_monF _ l n y (hv.up monR_up hy) hn)
  have HU0 := Lib.hid (((Up.refl w).alloc (.cells #[.int .i64 K, .slice va n vc] 53)).alloc (.cells #[.int .i64 0, .slice none 0 0] 53))
  have HB0 := Lib.hid (BoxC.new2 w (.cells #[.int .i64 K, .slice va n vc] 53) 53 #[.int .i64 0, .slice none 0 0])
  have HBA := Lib.hid ((BoxC.new w 53 #[.int .i64 K, .slice va n vc]).up ((Up.refl _).alloc (.cells #[.int .i64 0, .slice none 0 0] 53)))
  clear hv hn
  go_enter Try.func48, Try.ntmps48
  go_upto_region 1 with (fail)
  obtain ⟨W, hW⟩ : ∃ W, (w.alloc (.cells #[.int .i64 K, .slice va n vc] 53)).alloc (.cells #[.int .i64 0, .slice none 0 0] 53) = W := ⟨_, rfl⟩
  rw [hW] at HU0 HB0 HBA ⊢
  obtain ⟨c0, c1⟩ := HBA.out.two
  have cs := HBA.out.lt
  have ds := HB0.out.lt
  clear hW
  refine wp_region_mk 6 (fun _ _ v x => ∃ a c, v = .slice a n c ∧ Fr (fun b => b < W.heap.size) (fun y => LsAt 2 24 monR y (.slice a n c) l) x) (by kernel_rfl) (by kernel_rfl) ?_
  simp only [List.take_succ_cons, List.take_zero, List.drop_succ_cons, List.drop_zero]
  iterate 4 (refine wpMk_quiet anti_post (by kernel_rfl) ?_; go_big_quiet_step (fail); refine wpQuiet_nil ?_)
  refine wpMk_enter anti_post 62 #[.slice va n vc] (fun v x y ⟨a3, c3, h1, h2⟩ hu => ⟨a3, c3, h1, h2.up hu⟩) (by kernel_rfl) (fun x => by go_simp) (fun x hx => (HCL.out x (HU0.out.trans hx)).mono fun e w' ⟨a, c, h1, h2, h3⟩ => ⟨_, h1, h2, a, c, rfl, h3.less fun i _ h => Nat.lt_of_lt_of_le h hx.size⟩) ?_
  rintro v ⟨y, hy, a3, c3, rfl, -⟩
  simp only [Act.put, List.setIfInBounds_toArray, List.set_cons_succ, List.set_cons_zero]
  iterate 1 (refine wpMk_quiet anti_post (by kernel_rfl) ?_; go_big_quiet_step (fail); refine wpQuiet_nil ?_)
  refine wpMk_nil ?_
  rintro W2 hW2 ⟨_, a4, c4, hR1, hNL⟩
  simp only [Value.slice.injEq, true_and] at hR1
  obtain ⟨rfl, rfl⟩ := hR1
  have HNL := Lib.hid hNL
  have HW2 := Lib.hid hW2
  have HB2 := Lib.hid (HB0.out.up hW2)
  have HPT := Lib.hid (run_put (P := Try.prog) (k := 2) lin_info HB2.out (cs := #[.int .i64 K, .slice a3 n c3]) rfl rfl (by simp [Value.oneCell']))
  have HRB := Lib.hid (HB2.out.row #[.int .i64 K, .slice a3 n c3])
  clear hNL hW2 hy c0 c1 cs ds
  go_wp2_with (refine st_store HPT.out (by rfl) (by rfl) ?_)
  obtain ⟨f0, f1⟩ := HRB.out.two
  have HUR := Lib.hid ((HU0.out.trans HW2.out).grown' (setRow_by W2 (w.heap.size + 1) #[.int .i64 K, .slice a3 n c3]) (fun k e => by cases e; exact Nat.le_succ _))
  refine bodyPost_ret (v := .agg #[.int .i64 K, .slice a3 n c3]) (by simp [results, Try.results48, go_sem, f0, f1]) rfl ?_
  refine ⟨a3, c3, rfl, HUR.out, HNL.out.to (Kp.of_by (X := fun b => b < W.heap.size) (setRow_by W2 (w.heap.size + 1) #[.int .i64 K, .slice a3 n c3]) (fun g e => by cases e; exact HB0.out.lt)) (fun _ _ h => h) (fun i _ h => Nat.lt_of_lt_of_le h HU0.out.size)⟩
set_option maxHeartbeats 4000000 in
theorem ex_clo (K : Int) (v : Value) (l : List Mono) (n : Nat) (w : World) (hv : LsAt 2 24 monR w v l) (hn : l.length = n) :
    Calls Try.prog 64 #[.agg #[.int .i64 K, v]] w fun e w' => ∃ a c, e = .returned (.tuple #[.agg #[.int .i64 K, .slice a n c], .int .i64 0]) ∧ Up w w' ∧ Fr (fun b => b < w.heap.size) (fun y => LsAt 2 24 monR y (.slice a n c) l) w' := by
  obtain ⟨va, vc, rfl, _⟩ := hv.shape
  rw [hn] at hv ⊢
  have hnI : (n : Int) ≤ 140737488351232 := by have := hv.bytes; rw [hn] at this; omega
  have HCL := Lib.hid (fun y (hy : Up w y) => clone_monF _ l n y (hv.up monR_up hy) hn)
  have HU0 := Lib.hid (((Up.refl w).alloc (.cells #[.int .i64 K, .slice va n vc] 53)).alloc (.cells #[.int .i64 0, .slice none 0 0] 53))
  have HB0 := Lib.hid (BoxC.new2 w (.cells #[.int .i64 K, .slice va n vc] 53) 53 #[.int .i64 0, .slice none 0 0])
  have HBA := Lib.hid ((BoxC.new w 53 #[.int .i64 K, .slice va n vc]).up ((Up.refl _).alloc (.cells #[.int .i64 0, .slice none 0 0] 53)))
  clear hv hn
  go_enter Try.func64, Try.ntmps64
  go_upto_region 1 with (fail)
  obtain ⟨W, hW⟩ : ∃ W, (w.alloc (.cells #[.int .i64 K, .slice va n vc] 53)).alloc (.cells #[.int .i64 0, .slice none 0 0] 53) = W := ⟨_, rfl⟩
  rw [hW] at HU0 HB0 HBA ⊢
  obtain ⟨c0, c1⟩ := HBA.out.two
  have cs := HBA.out.lt
  have ds := HB0.out.lt
  clear hW
  refine wp_region_mk 6 (fun _ _ v x => ∃ a c, v = .slice a n c ∧ Fr (fun b => b < W.heap.size) (fun y => LsAt 2 24 monR y (.slice a n c) l) x) (by kernel_rfl) (by kernel_rfl) ?_
  simp only [List.take_succ_cons, List.take_zero, List.drop_succ_cons, List.drop_zero]
  iterate 4 (refine wpMk_quiet anti_post (by kernel_rfl) ?_; go_big_quiet_step (fail); refine wpQuiet_nil ?_)
  refine wpMk_enter anti_post 62 #[.slice va n vc] (fun v x y ⟨a3, c3, h1, h2⟩ hu => ⟨a3, c3, h1, h2.up hu⟩) (by kernel_rfl) (fun x => by go_simp) (fun x hx => (HCL.out x (HU0.out.trans hx)).mono fun e w' ⟨a, c, h1, h2, h3⟩ => ⟨_, h1, h2, a, c, rfl, h3.less fun i _ h => Nat.lt_of_lt_of_le h hx.size⟩) ?_
  rintro v ⟨y, hy, a3, c3, rfl, -⟩
  simp only [Act.put, List.setIfInBounds_toArray, List.set_cons_succ, List.set_cons_zero]
  iterate 1 (refine wpMk_quiet anti_post (by kernel_rfl) ?_; go_big_quiet_step (fail); refine wpQuiet_nil ?_)
  refine wpMk_nil ?_
  rintro W2 hW2 ⟨_, a4, c4, hR1, hNL⟩
  simp only [Value.slice.injEq, true_and] at hR1
  obtain ⟨rfl, rfl⟩ := hR1
  have HNL := Lib.hid hNL
  have HW2 := Lib.hid hW2
  have HB2 := Lib.hid (HB0.out.up hW2)
  have HPT := Lib.hid (run_put (P := Try.prog) (k := 2) lin_info HB2.out (cs := #[.int .i64 K, .slice a3 n c3]) rfl rfl (by simp [Value.oneCell']))
  have HRB := Lib.hid (HB2.out.row #[.int .i64 K, .slice a3 n c3])
  clear hNL hW2 hy c0 c1 cs ds
  go_wp2_with (refine st_store HPT.out (by rfl) (by rfl) ?_)
  obtain ⟨f0, f1⟩ := HRB.out.two
  have HUR := Lib.hid ((HU0.out.trans HW2.out).grown' (setRow_by W2 (w.heap.size + 1) #[.int .i64 K, .slice a3 n c3]) (fun k e => by cases e; exact Nat.le_succ _))
  refine bodyPost_ret (v := .tuple #[.agg #[.int .i64 K, .slice a3 n c3], .int .i64 0]) (by simp [results, Try.results64, go_sem, f0, f1]) rfl ?_
  refine ⟨a3, c3, rfl, HUR.out, HNL.out.to (Kp.of_by (X := fun b => b < W.heap.size) (setRow_by W2 (w.heap.size + 1) #[.int .i64 K, .slice a3 n c3]) (fun g e => by cases e; exact HB0.out.lt)) (fun _ _ h => h) (fun i _ h => Nat.lt_of_lt_of_le h HU0.out.size)⟩
end Go.Proofs.Ytpccaifhcmcegaa
end

section
namespace Go.Proofs.Ytpccaifhcmcegaa
set_option linter.unusedSimpArgs false
open Go.ChangeShapes Go.WideShapes Go.ChangeAt Go.RowKit
set_option linter.unusedVariables false
set_option maxRecDepth 100000

theorem lin_u : ∃ d, Try.prog.underlying 53 = some d ∧ d.isRow = true := ⟨_, Try.underlying53, rfl⟩
theorem ax_u : ∃ d, Try.prog.underlying 104 = some d ∧ d.isRow = true := ⟨_, Try.underlying104, rfl⟩
theorem ax_info : (Try.prog.info? 104).map (·.size) = some 3 := by kernel_rfl
theorem rowT_ax : RowT 48 104 3 48 := rowT_of (z := .agg #[.string ByteArray.empty, .int .i64 0, .slice none 0 0]) Try.underlying48 (by kernel_rfl) rfl (by decide)
theorem arr2 {cs : Array Value} (h : cs.size = 2) : cs = #[cs.getD 0 undef, cs.getD 1 undef] := by
  obtain ⟨l⟩ := cs
  match l, h with
  | [a0, a1], _ => rfl
theorem arr3 {cs : Array Value} (h : cs.size = 3) : cs = #[cs.getD 0 undef, cs.getD 1 undef, cs.getD 2 undef] := by
  obtain ⟨l⟩ := cs
  match l, h with
  | [a0, a1, a2], _ => rfl
/-- A form of a list. -/
theorem LsAt.ln {w : World} {a : Option Addr} {n c : Nat} {l : List LinT} (h : LsAt 2 32 linR w (.slice a n c) l) (i : Nat) (hi : i < l.length) :
    ∃ (g o : Nat) (va : Option Addr) (vc : Nat), a = some ⟨g, o, none⟩ ∧ g < w.heap.size ∧ LsAt 2 24 monR w (.slice va l[i].2.length vc) l[i].2 ∧ ∀ y, Up w y → (Instr.loadAt 53 (.pointer (some ⟨g, o + i * 2, none⟩))).run Try.prog y = .ok (.agg #[.int .i64 l[i].1, .slice va l[i].2.length vc]) y := by
  obtain ⟨g, o, cs, e, hg, hc, hr⟩ := h.row linR_k i hi
  have h0 : cs.getD 0 undef = .int .i64 l[i].1 := hc.2.1
  have h1 : LsAt 2 24 monR w (cs.getD 1 undef) l[i].2 := hc.2.2
  obtain ⟨va, vc, e1, _⟩ := h1.shape
  have e2 := arr2 hc.1
  rw [h0, e1] at e2
  rw [e1] at h1
  obtain ⟨d, u1, u2⟩ := lin_u
  exact ⟨g, o, va, vc, e, hg, h1, fun y hy => by have h3 := run_cs u1 u2 lin_info hc.1 (hr y hy); rw [e2] at h3; exact h3⟩
theorem LsAt.ax {w : World} {a : Option Addr} {n c : Nat} {l : List Ax} (h : LsAt 3 48 axR w (.slice a n c) l) (i : Nat) (hi : i < l.length) :
    ∃ (g o : Nat) (va : Option Addr) (vc : Nat), a = some ⟨g, o, none⟩ ∧ g < w.heap.size ∧ l[i].1.size ≤ maxLen ∧ LsAt 2 24 monR w (.slice va l[i].2.2.length vc) l[i].2.2 ∧ ∀ y, Up w y → (Instr.loadAt 104 (.pointer (some ⟨g, o + i * 3, none⟩))).run Try.prog y = .ok (.agg #[.string l[i].1, .int .i64 l[i].2.1, .slice va l[i].2.2.length vc]) y := by
  obtain ⟨g, o, cs, e, hg, hc, hr⟩ := h.row axR_k i hi
  have h0 : cs.getD 0 undef = .string l[i].1 := hc.2.1.1
  have h1 : cs.getD 1 undef = .int .i64 l[i].2.1 := hc.2.2.1
  have h2 : LsAt 2 24 monR w (cs.getD 2 undef) l[i].2.2 := hc.2.2.2
  obtain ⟨va, vc, e1, _⟩ := h2.shape
  have e2 := arr3 hc.1
  rw [h0, h1, e1] at e2
  rw [e1] at h2
  obtain ⟨d, u1, u2⟩ := ax_u
  exact ⟨g, o, va, vc, e, hg, hc.2.1.2, h2, fun y hy => by have h3 := run_cs u1 u2 ax_info hc.1 (hr y hy); rw [e2] at h3; exact h3⟩
theorem BoxC.three {w : World} {g : Nat} {t : TypeId} {a b c : Value} (h : BoxC w g t #[a, b, c]) : w.cell? ⟨g, 0, none⟩ = some a ∧ w.cell? ⟨g, 1, none⟩ = some b ∧ w.cell? ⟨g, 2, none⟩ = some c := ⟨cell_of_row _ _ _ _ _ _ h, cell_of_row _ _ _ _ _ _ h, cell_of_row _ _ _ _ _ _ h⟩
theorem takeS {α : Type} {l : List α} {i n : Nat} (hn : l.length = n) (hi : i < n) : l.take (i + 1) = l.take i ++ [l[i]'(by omega)] := List.take_succ_eq_append_getElem (by omega)
set_option maxHeartbeats 8000000 in
theorem p_copyForms (v : Value) (l : List LinT) (n : Nat) (w : World) (hv : LsAt 2 32 linR w v l) (hn : l.length = n) :
    Calls Try.prog 49 #[v] w fun e w' => ∃ a c, e = .returned (.slice a n c) ∧ Up w w' ∧ Fr (fun b => b < w.heap.size) (fun y => LsAt 2 32 linR y (.slice a n c) l) w' := by
  obtain ⟨la, lc, rfl, _⟩ := hv.shape
  rw [hn] at hv ⊢
  have hnI : (n : Int) ≤ 140737488351232 := by have := hv.bytes; rw [hn] at this; omega
  have HNB : Hid (n * 32 ≤ 140737488351232) := Lib.hid (by have := hv.bytes; rw [hn] at this; exact this)
  have HV := Lib.hid hv
  have HN := Lib.hid hn
  clear hv hn
  go_enter Try.func49, Try.ntmps49
  go_wp2
  go_loopw [3, 8] (fun ov iv wr => ∃ i : Nat, iv = .int .i64 i ∧ i ≤ n ∧ Up w wr ∧ OwnX 2 linR (fun b => b < w.heap.size) w.heap.size 53 wr ov (l.take i)) (fun _ iv _ => n - (intOf iv).toNat)
  case atStart => exact ⟨0, rfl, Nat.zero_le _, Up.refl _, OwnX.nil⟩
  case round =>
    rename World => wr
    obtain ⟨i, rfl, hi, hup, hrow⟩ := hrel
    have HU := Lib.hid hup
    obtain ⟨ra, rc, rfl⟩ := hrow.shape
    have HTL : Hid ((l.take i).length = i) := Lib.hid (by rw [List.length_take, HN.out]; omega)
    rw [HTL.out] at hrow ⊢
    have HR := Lib.hid hrow
    clear hup hrow
    by_cases hlt : i < n
    · have hltI : (i : Int) < n := by omega
      have hi1 : i < l.length := by rw [HN.out]; exact hlt
      have HTK := Lib.hid (takeS HN.out hlt)
      obtain ⟨g, o, va, vc, rfl, hg, hms, hld⟩ := HV.out.ln i hi1
      obtain ⟨x, hx⟩ : ∃ x, l[i]'hi1 = x := ⟨_, rfl⟩
      have HTK : Hid (l.take (i + 1) = l.take i ++ [x]) := Lib.hid (by rw [← hx]; exact HTK.out)
      rw [hx] at hms hld
      obtain ⟨m, hm⟩ : ∃ m, x.2.length = m := ⟨_, rfl⟩
      rw [hm] at hms hld
      have hmI : (m : Int) ≤ 140737488351232 := by have := hms.bytes; rw [hm] at this; omega
      have HLD := Lib.hid (hld wr HU.out)
      have hg' := Nat.lt_of_lt_of_le hg HU.out.size
      have HFL := Lib.hid (run_fill (P := Try.prog) (k := 2) lin_info wr (Z := #[.int .i64 0, .slice none 0 0]) (cs := #[.int .i64 x.1, .slice va m vc]) rfl rfl (by simp [Value.oneCell']))
      have HU1 := Lib.hid (HU.out.alloc (.cells #[.int .i64 x.1, .slice va m vc] 53))
      have HBX := Lib.hid (BoxC.new wr 53 #[.int .i64 x.1, .slice va m vc])
      have HCF := Lib.hid (fun y (hy : Up w y) => p_copyForm x.1 _ _ m y (hms.up monR_up hy) hm)
      have HR1 := Lib.hid (HR.out.up ((Up.refl wr).alloc (.cells #[.int .i64 x.1, .slice va m vc] 53)))
      clear hx hm hms hld hg
      go_wp2_with (first
        | (refine st_load HLD.out (by rfl) ?_)
        | (refine st_store HFL.out (by rfl) (by rfl) ?_)
        | (go_at_call 48; (with_reducible refine (HCF.out _ HU1.out).mono ?_); rintro e' W2 ⟨a4, c4, rfl, hy, hfr⟩; have HW2 := Lib.hid hy; have HF2 := Lib.hid hfr; clear hy hfr)
        | (refine st_build rowT_lin (by decide) (cs := #[.int .i64 x.1, .slice a4 m c4]) rfl (by rfl) ?_; have HB3 := Lib.hid (BoxC.new W2 53 #[.int .i64 x.1, .slice a4 m c4]); have HR3 := Lib.hid ((HR1.out.up HW2.out).up ((Up.refl W2).alloc (.cells #[.int .i64 x.1, .slice a4 m c4] 53)));
            have HX3 : Hid (Fr (fun b => b < w.heap.size ∨ (Value.slice ra i rc).ownBlock = some b) (fun y => linR y (fun j => (#[.int .i64 x.1, .slice a4 m c4] : Array Value).getD j undef) x) (W2.alloc (.cells #[.int .i64 x.1, .slice a4 m c4] 53))) := Lib.hid (((HF2.out.mono fun y h => ⟨rfl, h⟩).up ((Up.refl W2).alloc _)).less fun j _ hj => by rcases hj with hj | hj; exact Nat.lt_of_lt_of_le hj HU1.out.size; exact HR1.out.lt _ hj))
        | (at_builtin; refine st_app1 (b := W2.heap.size) rowT_lin linR_k HTL.out HR3.out rfl HB3.out HX3.out (by have := HNB.out; omega) (by decide) (by have := HU1.out.size; have := HW2.out.size; simp only [World.size_alloc] at *; omega) (by rfl) (by rfl) ?_; intro ua uc W4 h1 h2 h3; have HR4 := Lib.hid h1; have HG4 := Lib.hid h2; clear h1 h2 h3))
      go_roundw
      case rel =>
        refine ⟨i + 1, by go_num, by omega, ?_, by rw [HTK.out]; exact HR4.out⟩
        exact ((HU1.out.trans HW2.out).alloc _).grown' HG4.out fun k e => by have := HR.out.low k e; omega
      case measure => simp [intOf]; omega
    · obtain rfl : n = i := by omega
      have HTK : Hid (l.take n = l) := Lib.hid (List.take_of_length_le (by rw [HN.out]; exact Nat.le_refl _))
      rw [HTK.out] at HR
      go_wp2
      go_ret
      exact ⟨ra, rc, rfl, HU.out, HR.out.ls (fun _ h => h) (by decide) (by rw [HN.out]; exact HNB.out)⟩
set_option maxHeartbeats 8000000 in
theorem p_copyAxes (v : Value) (l : List Ax) (n : Nat) (w : World) (hv : LsAt 3 48 axR w v l) (hn : l.length = n) :
    Calls Try.prog 50 #[v] w fun e w' => ∃ a c, e = .returned (.slice a n c) ∧ Up w w' ∧ Fr (fun b => b < w.heap.size) (fun y => LsAt 3 48 axR y (.slice a n c) l) w' := by
  obtain ⟨la, lc, rfl, _⟩ := hv.shape
  rw [hn] at hv ⊢
  have hnI : (n : Int) ≤ 140737488351232 := by have := hv.bytes; rw [hn] at this; omega
  have HNB : Hid (n * 48 ≤ 140737488351232) := Lib.hid (by have := hv.bytes; rw [hn] at this; exact this)
  have HV := Lib.hid hv
  have HN := Lib.hid hn
  clear hv hn
  go_enter Try.func50, Try.ntmps50
  go_wp2
  go_loopw [3, 8] (fun ov iv wr => ∃ i : Nat, iv = .int .i64 i ∧ i ≤ n ∧ Up w wr ∧ OwnX 3 axR (fun b => b < w.heap.size) w.heap.size 104 wr ov (l.take i)) (fun _ iv _ => n - (intOf iv).toNat)
  case atStart => exact ⟨0, rfl, Nat.zero_le _, Up.refl _, OwnX.nil⟩
  case round =>
    rename World => wr
    obtain ⟨i, rfl, hi, hup, hrow⟩ := hrel
    have HU := Lib.hid hup
    obtain ⟨ra, rc, rfl⟩ := hrow.shape
    have HTL : Hid ((l.take i).length = i) := Lib.hid (by rw [List.length_take, HN.out]; omega)
    rw [HTL.out] at hrow ⊢
    have HR := Lib.hid hrow
    clear hup hrow
    by_cases hlt : i < n
    · have hltI : (i : Int) < n := by omega
      have hi1 : i < l.length := by rw [HN.out]; exact hlt
      have HTK := Lib.hid (takeS HN.out hlt)
      obtain ⟨g, o, va, vc, rfl, hg, hsz, hms, hld⟩ := HV.out.ax i hi1
      obtain ⟨x, hx⟩ : ∃ x, l[i]'hi1 = x := ⟨_, rfl⟩
      have HTK : Hid (l.take (i + 1) = l.take i ++ [x]) := Lib.hid (by rw [← hx]; exact HTK.out)
      rw [hx] at hms hld hsz
      obtain ⟨m, hm⟩ : ∃ m, x.2.2.length = m := ⟨_, rfl⟩
      rw [hm] at hms hld
      have hmI : (m : Int) ≤ 140737488351232 := by have := hms.bytes; rw [hm] at this; omega
      have HLD := Lib.hid (hld wr HU.out)
      have hg' := Nat.lt_of_lt_of_le hg HU.out.size
      have HFL := Lib.hid (run_fill (P := Try.prog) (k := 3) ax_info wr (Z := #[.string ByteArray.empty, .int .i64 0, .slice none 0 0]) (cs := #[.string x.1, .int .i64 x.2.1, .slice va m vc]) rfl rfl (by simp [Value.oneCell']))
      have HU1 := Lib.hid (HU.out.alloc (.cells #[.string x.1, .int .i64 x.2.1, .slice va m vc] 104))
      have HBX := Lib.hid (BoxC.new wr 104 #[.string x.1, .int .i64 x.2.1, .slice va m vc])
      have HCF := Lib.hid (fun y (hy : Up w y) => p_copyForm x.2.1 _ _ m y (hms.up monR_up hy) hm)
      have HR1 := Lib.hid (HR.out.up ((Up.refl wr).alloc (.cells #[.string x.1, .int .i64 x.2.1, .slice va m vc] 104)))
      have HSZ := Lib.hid hsz
      clear hsz
      clear hx hm hms hld hg
      go_upto_region 5 with (first
        | (refine st_load HLD.out (by rfl) ?_)
        | (refine st_store HFL.out (by rfl) (by rfl) ?_))
      obtain ⟨W, hW⟩ : ∃ W, wr.alloc (.cells #[.string x.1, .int .i64 x.2.1, .slice va m vc] 104) = W := ⟨_, rfl⟩
      rw [hW] at HU1 HBX HR1 ⊢
      obtain ⟨b0, b1, b2⟩ := HBX.out.three
      have bs := HBX.out.lt
      clear hW HFL HLD hg'
      refine wp_region_mk 8 (fun _ _ v z => ∃ a c, v = .agg #[.int .i64 x.2.1, .slice a m c] ∧ Fr (fun b => b < W.heap.size) (fun y => LsAt 2 24 monR y (.slice a m c) x.2.2) z) (by kernel_rfl) (by kernel_rfl) ?_
      simp only [List.take_succ_cons, List.take_zero, List.drop_succ_cons, List.drop_zero, Act.put]
      iterate 5 (refine wpMk_quiet anti_post (by kernel_rfl) ?_; go_big_quiet_step (fail); refine wpQuiet_nil ?_)
      refine wpMk_enter anti_post 48 #[.agg #[.int .i64 x.2.1, .slice va m vc]] (fun v z y ⟨a3, c3, h1, h2⟩ hu => ⟨a3, c3, h1, h2.up hu⟩) (by kernel_rfl) (fun z => by go_simp) (fun z hx => (HCF.out z (HU1.out.trans hx)).mono fun e w' ⟨a, c, h1, h2, h3⟩ => ⟨_, h1, h2, a, c, rfl, h3.less fun i _ h => Nat.lt_of_lt_of_le h hx.size⟩) ?_
      rintro v ⟨y, hy, a4, c4, rfl, -⟩
      simp only [Act.put, List.setIfInBounds_toArray, List.set_cons_succ, List.set_cons_zero]
      iterate 1 (refine wpMk_quiet anti_post (by kernel_rfl) ?_; go_big_quiet_step (fail); refine wpQuiet_nil ?_)
      refine wpMk_build anti_post rowT_ax (by decide) (cs := #[.string x.1, .int .i64 x.2.1, .slice a4 m c4]) rfl (by rfl) ?_
      intro bb hbb
      simp only [Act.put, List.setIfInBounds_toArray, List.set_cons_succ, List.set_cons_zero]
      refine wpMk_nil ?_
      rintro W2 hW2 ⟨⟨-, a5, c5, hR1, hNL⟩, hA⟩
      simp only [Value.agg.injEq, Array.mk.injEq, List.cons.injEq, Value.slice.injEq, true_and, and_true] at hR1
      obtain ⟨rfl, rfl⟩ := hR1
      have HA := Lib.hid hA
      have HF2 := Lib.hid hNL
      have HW2 := Lib.hid hW2
      have HR3 := Lib.hid (HR1.out.up hW2)
      have HX3 : Hid (Fr (fun b => b < w.heap.size ∨ (Value.slice ra i rc).ownBlock = some b) (fun y => axR y (fun j => (#[.string x.1, .int .i64 x.2.1, .slice a4 m c4] : Array Value).getD j undef) x) W2) := Lib.hid ((HF2.out.mono fun y h => ⟨⟨rfl, HSZ.out⟩, rfl, h⟩).less fun j _ hj => by rcases hj with hj | hj; exact Nat.lt_of_lt_of_le hj HU1.out.size; exact HR1.out.lt _ hj)
      clear hA hNL hW2 hbb hy b0 b1 b2 bs
      go_wp2_with (at_builtin; refine st_app1 (b := bb) rowT_ax axR_k HTL.out HR3.out rfl HA.out HX3.out (by have := HNB.out; omega) (by decide) (by have := HU1.out.size; have := HW2.out.size; omega) (by rfl) (by rfl) ?_; intro ua uc W4 h1 h2 h3; have HR4 := Lib.hid h1; have HG4 := Lib.hid h2; clear h1 h2 h3)
      go_roundw
      case rel =>
        refine ⟨i + 1, by go_num, by omega, ?_, by rw [HTK.out]; exact HR4.out⟩
        exact (HU1.out.trans HW2.out).grown' HG4.out fun k e => by have := HR.out.low k e; omega
      case measure => simp [intOf]; omega
    · obtain rfl : n = i := by omega
      have HTK : Hid (l.take n = l) := Lib.hid (List.take_of_length_le (by rw [HN.out]; exact Nat.le_refl _))
      rw [HTK.out] at HR
      go_wp2
      go_ret
      exact ⟨ra, rc, rfl, HU.out, HR.out.ls (fun _ h => h) (by decide) (by rw [HN.out]; exact HNB.out)⟩
end Go.Proofs.Ytpccaifhcmcegaa
end

section
namespace Go.Proofs.Ytpccaifhcmcegaa
set_option linter.unusedSimpArgs false
open Go.ChangeShapes Go.WideShapes Go.ChangeAt Go.RowKit
set_option linter.unusedVariables false
set_option maxRecDepth 100000

theorem setCells_by (g : Nat) : ∀ (vs : List Value) (o : Nat) (w : World), w.grownBy (w.setCells g o vs) (some g)
  | [], o, w => by_refl _ _
  | v :: r, o, w => by_trans (set_by w g o v) (setCells_by g r (o + 1) _)
/-- Some cells of element i replaced. -/
def putF (F : Nat → Nat → Value) (i o : Nat) (vs : List Value) : Nat → Nat → Value := fun i' j => if i' = i ∧ o ≤ j ∧ j < o + vs.length then vs.getD (j - o) undef else F i' j
theorem putF_other {F : Nat → Nat → Value} {i o : Nat} {vs : List Value} {i' : Nat} (h : i' ≠ i) : putF F i o vs i' = F i' := funext fun j => if_neg fun e => h e.1
theorem putF_out {F : Nat → Nat → Value} {i o : Nat} {vs : List Value} {i' j : Nat} (h : ¬ (o ≤ j ∧ j < o + vs.length)) : putF F i o vs i' j = F i' j := if_neg fun e => h e.2
theorem putF_in {F : Nat → Nat → Value} {i o : Nat} {vs : List Value} {j : Nat} (h1 : o ≤ j) (h2 : j < o + vs.length) : putF F i o vs i j = vs.getD (j - o) undef := if_pos ⟨rfl, h1, h2⟩
theorem flat_set {F : Nat → Nat → Value} {n k i j : Nat} (u : Value) (hi : i < n) (hj : j < k) : (flat F n k).set (i * k + j) u = flat (putF F i j [u]) n k := by
  have hk : 0 < k := by omega
  refine List.ext_getElem? fun q => ?_
  have hlt : i * k + j < n * k := by
    have : (i + 1) * k ≤ n * k := Nat.mul_le_mul_right k hi
    rw [Nat.add_mul] at this; omega
  by_cases hq : q < n * k
  · have hd : q / k < n := Nat.div_lt_of_lt_mul (by rw [Nat.mul_comm]; exact hq)
    have hm := Nat.mod_lt q hk
    have hqq : q / k * k + q % k = q := by rw [Nat.mul_comm]; exact Nat.div_add_mod q k
    have h3 := flat_get (putF F i j [u]) n k (q / k) (q % k) hd hm
    have h4 := flat_get F n k (q / k) (q % k) hd hm
    rw [hqq] at h3 h4
    rw [h3, List.getElem?_set]
    by_cases e : i * k + j = q
    · have e1 : q / k = i := by rw [← e, Nat.mul_comm, Nat.mul_add_div hk, Nat.div_eq_of_lt hj]; rfl
      have e2 : q % k = j := by rw [← e, Nat.mul_comm, Nat.mul_add_mod, Nat.mod_eq_of_lt hj]
      rw [if_pos e, if_pos (by rw [flat_length]; exact hlt), e1, e2, putF_in (Nat.le_refl _) (by simp), Nat.sub_self]; rfl
    · rw [if_neg e, h4]
      by_cases e1 : q / k = i
      · rw [putF_out]
        intro h
        simp only [List.length_singleton] at h
        have : q % k = j := by omega
        apply e
        rw [← e1, ← this]; exact hqq
      · rw [putF_other e1]
  · rw [List.getElem?_eq_none (by rw [List.length_set, flat_length]; omega), List.getElem?_eq_none (by rw [flat_length]; omega)]
theorem putF_cons {F : Nat → Nat → Value} {i o : Nat} {v : Value} {r : List Value} : putF (putF F i o [v]) i (o + 1) r = putF F i o (v :: r) := by
  funext i' j
  unfold putF
  by_cases h : i' = i
  · subst h
    by_cases h1 : o + 1 ≤ j ∧ j < o + 1 + r.length
    · rw [if_pos ⟨rfl, h1⟩, if_pos ⟨rfl, by omega, by rw [List.length_cons]; omega⟩, show j - o = (j - (o + 1)) + 1 by omega]; rfl
    · rw [if_neg fun e => h1 e.2]
      by_cases h2 : j = o
      · subst h2
        rw [if_pos ⟨rfl, Nat.le_refl _, by simp⟩, if_pos ⟨rfl, Nat.le_refl _, by rw [List.length_cons]; omega⟩, Nat.sub_self]; rfl
      · rw [if_neg fun e => by have := e.2; simp only [List.length_singleton] at this; omega, if_neg fun e => by have := e.2; rw [List.length_cons] at this; omega]
  · rw [if_neg fun e => h e.1, if_neg fun e => h e.1, if_neg fun e => h e.1]
/-- A row of the call's own, its cells as F says. -/
abbrev OwnF (w : World) (base : Nat) (E : TypeId) (k : Nat) (v : Value) (n : Nat) (F : Nat → Nat → Value) : Prop := w.ownsRow base E k v n (flat F n k)
section
variable {w w' : World} {base g n c k : Nat} {E : TypeId} {F : Nat → Nat → Value}
theorem OwnF.cell (h : OwnF w base E k (.slice (some ⟨g, 0, none⟩) n c) n F) {i j : Nat} (hi : i < n) (hj : j < k) : w.cell? ⟨g, i * k + j, none⟩ = some (F i j) := by
  obtain ⟨g', cap, e, _, _, _, _, hc⟩ := own_get h (by omega)
  cases e
  exact hc _ _ (flat_get F n k i j hi hj)
theorem OwnF.frozen (h : OwnF w base E k (.slice (some ⟨g, 0, none⟩) n c) n F) (hn : 0 < n) (o : Nat) : w.frozen? ⟨g, o, none⟩ = false := by
  obtain ⟨g', cap, e, _, _, _, hf, _⟩ := own_get h hn
  cases e
  exact hf o
theorem OwnF.put : ∀ (vs : List Value) {w : World} {F : Nat → Nat → Value} {i o : Nat}, OwnF w base E k (.slice (some ⟨g, 0, none⟩) n c) n F → i < n → o + vs.length ≤ k → OwnF (w.setCells g (i * k + o) vs) base E k (.slice (some ⟨g, 0, none⟩) n c) n (putF F i o vs)
  | [], w, F, i, o, h, _, _ => by
    have e : putF F i o [] = F := funext fun i' => funext fun j => if_neg fun e => by have := e.2.2; have := e.2.1; simp at *; omega
    rw [e]; exact h
  | v :: r, w, F, i, o, h, hi, ho => by
    rw [List.length_cons] at ho
    have hlt : i * k + o < (flat F n k).length := by
      rw [flat_length]
      have : (i + 1) * k ≤ n * k := Nat.mul_le_mul_right k hi
      rw [Nat.add_mul] at this; omega
    have h1 := own_set h (i * k + o) hlt v
    rw [flat_set v hi (by omega)] at h1
    have h2 := OwnF.put r h1 hi (o := o + 1) (by omega)
    rw [putF_cons] at h2
    exact h2
theorem OwnF.store {P : Program} {T : TypeId} (h : OwnF w base E k (.slice (some ⟨g, 0, none⟩) n c) n F) {i o : Nat} {cells : Array Value} (hi : i < n) (ho : o + cells.size ≤ k) (hT : (P.info? T).map (·.size) = some cells.size) (h1 : cells.all (·.oneCell') = true) :
    (Instr.storeAt T (.pointer (some ⟨g, i * k + o, none⟩)) (.agg cells)).run P w = .ok () (w.setCells g (i * k + o) cells.toList) :=
  run_storeAt_mid w g (i * k + o) T cells (fun j hj => ⟨by rw [Nat.add_assoc, h.cell hi (by omega)]; rfl, h.frozen (by omega) _⟩) hT h1
theorem OwnF.ptr {v : Value} (h : OwnF w base E k v n F) (hn : 0 < n) : ∃ g c, v = .slice (some ⟨g, 0, none⟩) n c ∧ base ≤ g ∧ g < w.heap.size := by
  obtain ⟨g, c, e, h1, h2, _⟩ := own_get h hn
  exact ⟨g, c, e, h1, h2⟩
/-- A box as a row of one. -/
theorem OwnF.box {b : Nat} {cs : Array Value} (h : BoxC w b E cs) (hs : cs.size = k) (hk : 0 < k) (hb : base ≤ b) : OwnF w base E k (.slice (some ⟨b, 0, none⟩) 1 1) 1 (fun _ j => cs.getD j undef) := by
  refine ⟨by rw [flat_length], .inr ⟨b, 1, cs, rfl, hb, h, Nat.le_refl _, by unfold maxLen; omega, by omega, ?_⟩⟩
  refine List.ext_getElem? fun q => ?_
  by_cases hq : q < 1 * k
  · have h3 := flat_get (fun _ j => cs.getD j undef) 1 k 0 q (by decide) (by omega)
    rw [Nat.zero_mul, Nat.zero_add] at h3
    rw [h3, List.getElem?_take_of_lt hq, Array.getElem?_toList, Array.getD_eq_getD_getElem?, Array.getElem?_eq_getElem (by omega)]; rfl
  · rw [List.getElem?_eq_none (by rw [List.length_take]; omega), List.getElem?_eq_none (by rw [flat_length]; omega)]
theorem OwnF.boxC {b : Nat} (h : OwnF w base E k (.slice (some ⟨b, 0, none⟩) 1 1) 1 F) : ∃ cs : Array Value, BoxC w b E cs ∧ cs.size = k ∧ ∀ j, j < k → cs.getD j undef = F 0 j := by
  rcases h.2 with ⟨hv, _⟩ | ⟨g', cap, cur, hv, hb, hg, hnc, hcm, hcs, ht⟩
  · cases hv
  · cases hv
    refine ⟨cur, hg, by omega, fun j hj => ?_⟩
    have h3 := flat_get F 1 k 0 j (by decide) hj
    rw [Nat.zero_mul, Nat.zero_add] at h3
    rw [← ht, List.getElem?_take_of_lt (by omega), Array.getElem?_toList] at h3
    rw [Array.getD_eq_getD_getElem?, h3]; rfl
end
end Go.Proofs.Ytpccaifhcmcegaa
end
