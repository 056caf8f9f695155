/-
  Joined by a program: PeN, PeO, PeQ.
-/
import Derived.Test.YtlglfdhiopnglaaGreatDoorPeMn

section
namespace Go.Proofs.YtlglfdhiopnglaaGreatDoor
open Go.ChangeShapes Go.WideShapes Go.ChangeAt Go.RowKit
set_option linter.unusedVariables false
set_option linter.unusedSimpArgs false
set_option maxRecDepth 100000

def vlB (x : Ins) : Bool :=
  if x.1 = 9 then validF x.2.2.2.2.1.1 x.2.2.2.2.1.2 else if x.1 = 10 ∨ x.1 = 11 then numB x.2.2.2.2.1.1 x.2.2.2.2.1.2 0 x.2.2.2.1
  else if x.1 = 12 then numB x.2.2.2.2.1.1 x.2.2.2.2.1.2 4 10 && (decide (x.2.2.2.2.1.1 ≠ 8) || decide (x.2.2.2.1 = 0))
  else if x.1 = 13 then numB x.2.2.2.2.1.1 x.2.2.2.2.1.2 0 255 else if x.1 = 14 then numB x.2.2.2.2.1.1 x.2.2.2.2.1.2 13 15 else decide (x.2.2.2.2.1.1 = 0 ∧ x.2.2.2.2.1.2 = 0)

set_option maxHeartbeats 8000000 in
theorem r47_val (x : Ins) (hx : InR x) (r : Bool) (hr : vlB x = r) (w : World) :
    Calls Tryz.prog 43 #[insV x] w fun e' w' => e' = .returned (.bool r) ∧ Up w w' := by
  have HR := Lib.hid hr
  have hn : R64 x.2.2.2.2.1.1 := hx 4
  have HB0 : Hid (BoxI (w.alloc (.cells #[.int .i64 x.1, .int .i64 x.2.1, .int .i64 x.2.2.1, .int .i64 x.2.2.2.1, .int .i64 x.2.2.2.2.1.1, .int .i64 x.2.2.2.2.1.2, .int .i64 x.2.2.2.2.2.1, .int .i64 x.2.2.2.2.2.2.1, .int .i64 x.2.2.2.2.2.2.2.1, .int .i64 x.2.2.2.2.2.2.2.2.1, .int .i64 x.2.2.2.2.2.2.2.2.2] 42)) w.heap.size x) := Lib.hid (BoxI.new w x rfl)
  obtain ⟨op, A, b, c, ⟨n, d⟩, kd, bi, fr, ro, ov⟩ := x
  have HFV : Hid (∀ w, Calls Tryz.prog 72 #[.agg #[.int .i64 1, .int .i64 0, .int .i64 0, .int .i64 0, .int .i64 0], .agg #[.int .i64 n, .int .i64 d]] w fun e w' => e = .returned (.bool (validF n d)) ∧ Up w w') := Lib.hid (fun w => base_Val_frac 1 0 0 0 0 n d _ rfl (by decide) (by decide) hn.1 hn.2 w)
  dsimp only at HB0
  have HU := Lib.hid ((Up.refl w).alloc (.cells #[.int .i64 op, .int .i64 A, .int .i64 b, .int .i64 c, .int .i64 n, .int .i64 d, .int .i64 kd, .int .i64 bi, .int .i64 fr, .int .i64 ro, .int .i64 ov] 42))
  clear hr hx hn
  go_enter Tryz.func43, Tryz.ntmps43
  go_wp2_with (first | (go_at_call 73; refine (r47_number _ _ _ _ _ rfl _).mono ?_; rintro e' y ⟨rfl, hy⟩; have HU := Lib.hid (HU.out.trans hy); obtain ⟨x0, x1, x2, x3, x4, x5, x6, x7, x8, x9, x10⟩ := (HB0.out.up hy).all; clear hy) | (go_at_call 72; refine (HFV.out _).mono ?_; rintro e' y ⟨rfl, hy⟩; have HU := Lib.hid (HU.out.trans hy); clear hy))
  all_goals try simp only [Bool.not_eq_false', Bool.not_eq_true', bne_iff_ne, ne_eq, bne_eq_false_iff_eq, beq_iff_eq, beq_eq_false_iff_ne, decide_eq_true_eq, decide_eq_false_iff_not] at *
  all_goals
    go_ret
    exact ⟨ret_bool (by rw [← HR.out, vlB, Bool.eq_iff_iff]; first | (simp [*]; done) | (clear HU HB0 HFV HR; simp_all; done)), by first | exact HU.out | exact (Up.refl w).alloc _⟩
end Go.Proofs.YtlglfdhiopnglaaGreatDoor
end

section
namespace Go.Proofs.YtlglfdhiopnglaaGreatDoor
open Go.ChangeShapes Go.WideShapes Go.ChangeAt Go.RowKit
set_option linter.unusedVariables false
set_option linter.unusedSimpArgs false
set_option maxRecDepth 100000

/-- The kind of field j. -/
def kdN (op j : Nat) : Int := ((kdS op).data.getD j 0).toNat
def formB (x : Ins) : Bool :=
  knownB x.1 && (fieldB (kdN x.1.toNat 0) x.2.1 && (fieldB (kdN x.1.toNat 1) x.2.2.1 && (fieldB (kdN x.1.toNat 2) x.2.2.2.1 && (vlB x && (if typedB x.1 then typB x.2.2.2.2.2 else decide (x.2.2.2.2.2.1 = 0 ∧ x.2.2.2.2.2.2.1 = 0 ∧ x.2.2.2.2.2.2.2.1 = 0 ∧ x.2.2.2.2.2.2.2.2.1 = 0 ∧ x.2.2.2.2.2.2.2.2.2 = 0))))))
theorem kd_index (op j : Nat) (h : op < 17) (hj : j < 3) (w : World) : (Instr.index 9 (.string (kdS op)) (.int .i64 (j : Int))).run Tryz.prog w = .ok (.int .u8 (kdN op j)) w := by
  rcases (by omega : op = 0 ∨ op = 1 ∨ op = 2 ∨ op = 3 ∨ op = 4 ∨ op = 5 ∨ op = 6 ∨ op = 7 ∨ op = 8 ∨ op = 9 ∨ op = 10 ∨ op = 11 ∨ op = 12 ∨ op = 13 ∨ op = 14 ∨ op = 15 ∨ op = 16) with rfl | rfl | rfl | rfl | rfl | rfl | rfl | rfl | rfl | rfl | rfl | rfl | rfl | rfl | rfl | rfl | rfl <;> rcases (by omega : j = 0 ∨ j = 1 ∨ j = 2) with rfl | rfl | rfl <;> kernel_rfl
theorem mn_some (op : Nat) (h : op < 17) : (mnS op).toList.isEmpty = false := by
  rcases (by omega : op = 0 ∨ op = 1 ∨ op = 2 ∨ op = 3 ∨ op = 4 ∨ op = 5 ∨ op = 6 ∨ op = 7 ∨ op = 8 ∨ op = 9 ∨ op = 10 ∨ op = 11 ∨ op = 12 ∨ op = 13 ∨ op = 14 ∨ op = 15 ∨ op = 16) with rfl | rfl | rfl | rfl | rfl | rfl | rfl | rfl | rfl | rfl | rfl | rfl | rfl | rfl | rfl | rfl | rfl <;> simp [mnS, ByteArray.toList_mk]
theorem r47_field' (kind n : Int) (w : World) : Calls Tryz.prog 42 #[.int .u8 kind, .int .i64 n] w fun e' w' => e' = .returned (.bool (fieldB kind n)) ∧ Up w w' :=
  (r47_field kind n _ rfl w).mono fun e' w' ⟨h1, h2⟩ => ⟨h1, h2 ▸ Up.refl _⟩

set_option maxHeartbeats 8000000 in
theorem r47_Formed (x : Ins) (hx : InR x) (r : Bool) (hr : formB x = r) (w : World) :
    Calls Tryz.prog 19 #[insV x] w fun e' w' => e' = .returned (.bool r) ∧ Up w w' := by
  have HR := Lib.hid hr
  have HVL : Hid (∀ w, Calls Tryz.prog 43 #[insV x] w fun e' w' => e' = .returned (.bool (vlB x)) ∧ Up w w') := Lib.hid (fun w => r47_val x hx _ rfl w)
  have HB0 : Hid (BoxI (w.alloc (.cells #[.int .i64 x.1, .int .i64 x.2.1, .int .i64 x.2.2.1, .int .i64 x.2.2.2.1, .int .i64 x.2.2.2.2.1.1, .int .i64 x.2.2.2.2.1.2, .int .i64 x.2.2.2.2.2.1, .int .i64 x.2.2.2.2.2.2.1, .int .i64 x.2.2.2.2.2.2.2.1, .int .i64 x.2.2.2.2.2.2.2.2.1, .int .i64 x.2.2.2.2.2.2.2.2.2] 42)) w.heap.size x) := Lib.hid (BoxI.new w x rfl)
  have HTY : Hid (∀ w, Calls Tryz.prog 28 #[typV x.2.2.2.2.2] w fun e' w' => e' = .returned (.bool (typB x.2.2.2.2.2)) ∧ Up w w') := Lib.hid (fun w => base_Type _ _ rfl w)
  by_cases hk : knownB x.1 = true
  · obtain ⟨op, A, b, c, ⟨n, d⟩, kd, bi, fr, ro, ov⟩ := x
    obtain ⟨o, rfl⟩ : ∃ o : Nat, op = o := ⟨op.toNat, by simp [knownB] at hk; omega⟩
    have ho : o < 17 := by simp [knownB] at hk; omega
    have HMN : Hid (∀ w, Calls Tryz.prog 15 #[.int .i64 (o : Int)] w fun e w' => e = .returned (.string (mnS o)) ∧ Up w w') := Lib.hid (fun w => r47_Mnemonic o ho w)
    have HOP : Hid (∀ w, Calls Tryz.prog 41 #[.int .i64 (o : Int)] w fun e w' => e = .returned (.string (kdS o)) ∧ Up w w') := Lib.hid (fun w => r47_operands o ho w)
    have i0 : ∀ w, (Instr.index 9 (.string (kdS o)) (.int .i64 0)).run Tryz.prog w = .ok (.int .u8 (kdN o 0)) w := fun w => kd_index o 0 ho (by omega) w
    have i1 : ∀ w, (Instr.index 9 (.string (kdS o)) (.int .i64 1)).run Tryz.prog w = .ok (.int .u8 (kdN o 1)) w := fun w => kd_index o 1 ho (by omega) w
    have i2 : ∀ w, (Instr.index 9 (.string (kdS o)) (.int .i64 2)).run Tryz.prog w = .ok (.int .u8 (kdN o 2)) w := fun w => kd_index o 2 ho (by omega) w
    have hmn := mn_some o ho
    have HR2 : Hid ((fieldB (kdN o 0) A && (fieldB (kdN o 1) b && (fieldB (kdN o 2) c && (vlB ((o : Int), A, b, c, (n, d), kd, bi, fr, ro, ov) && (if typedB o then typB (kd, bi, fr, ro, ov) else decide (kd = 0 ∧ bi = 0 ∧ fr = 0 ∧ ro = 0 ∧ ov = 0)))))) = r) := Lib.hid (by
      have := HR.out
      unfold formB at this
      dsimp only at this hk
      rw [hk, Int.toNat_natCast] at this
      exact this)
    dsimp only [insV] at HVL HB0 HTY
    have HU := Lib.hid ((Up.refl w).alloc (.cells #[.int .i64 (o : Int), .int .i64 A, .int .i64 b, .int .i64 c, .int .i64 n, .int .i64 d, .int .i64 kd, .int .i64 bi, .int .i64 fr, .int .i64 ro, .int .i64 ov] 42))
    clear hr hx hk HR
    go_enter Tryz.func19, Tryz.ntmps19
    go_wp2_with (first | (go_at_call 15; refine (HMN.out _).mono ?_; rintro e' y ⟨rfl, hy⟩; have HU := Lib.hid (HU.out.trans hy); have HB0 := Lib.hid (HB0.out.up hy); have x0 := HB0.out.all.1; clear hy) | (go_at_call 41; refine (HOP.out _).mono ?_; rintro e' y2 ⟨rfl, hy2⟩; have HU := Lib.hid (HU.out.trans hy2); have HB0 := Lib.hid (HB0.out.up hy2); clear hy2))
    have hlt := HB0.out.lt
    obtain ⟨x0', x1, x2, x3, x4, x5, x6, x7, x8, x9, x10⟩ := HB0.out.all
    obtain ⟨f0, hf0⟩ : ∃ f, fieldB (kdN o 0) A = f := ⟨_, rfl⟩
    obtain ⟨f1, hf1⟩ : ∃ f, fieldB (kdN o 1) b = f := ⟨_, rfl⟩
    obtain ⟨f2, hf2⟩ : ∃ f, fieldB (kdN o 2) c = f := ⟨_, rfl⟩
    obtain ⟨vl, hvl⟩ : ∃ f, vlB ((o : Int), A, b, c, (n, d), kd, bi, fr, ro, ov) = f := ⟨_, rfl⟩
    have H0 : Hid (∀ w, Calls Tryz.prog 42 #[.int .u8 (kdN o 0), .int .i64 A] w fun e' w' => e' = .returned (.bool f0) ∧ Up w w') := Lib.hid (fun w => hf0 ▸ r47_field' _ _ w)
    have H1 : Hid (∀ w, Calls Tryz.prog 42 #[.int .u8 (kdN o 1), .int .i64 b] w fun e' w' => e' = .returned (.bool f1) ∧ Up w w') := Lib.hid (fun w => hf1 ▸ r47_field' _ _ w)
    have H2 : Hid (∀ w, Calls Tryz.prog 42 #[.int .u8 (kdN o 2), .int .i64 c] w fun e' w' => e' = .returned (.bool f2) ∧ Up w w') := Lib.hid (fun w => hf2 ▸ r47_field' _ _ w)
    rw [hvl] at HVL
    rw [hf0, hf1, hf2, hvl] at HR2
    clear hf0 hf1 hf2 hvl
    cases f0
    · have HG : Hid (false = r) := Lib.hid HR2.out
      refine wp_region_ext (by kernel_rfl) (by kernel_rfl) ?_
      repeat (go_big_quiet_step (first | (go_at_call 42; (first | (with_reducible exact Calls.ext_of (H0.out _)) | (with_reducible exact Calls.ext_of (H1.out _)) | (with_reducible exact Calls.ext_of (H2.out _)))) | (go_at_call 43; exact Calls.ext_of (HVL.out _))))
      refine wpQuiet_nil ?_
      intro z hz
      go_wp2
      go_ret
      exact ⟨ret_bool HG.out, HU.out.trans hz⟩
    cases f1
    · have HG : Hid (false = r) := Lib.hid HR2.out
      refine wp_region_ext (by kernel_rfl) (by kernel_rfl) ?_
      repeat (go_big_quiet_step (first | (go_at_call 42; (first | (with_reducible exact Calls.ext_of (H0.out _)) | (with_reducible exact Calls.ext_of (H1.out _)) | (with_reducible exact Calls.ext_of (H2.out _)))) | (go_at_call 43; exact Calls.ext_of (HVL.out _))))
      refine wpQuiet_nil ?_
      intro z hz
      go_wp2
      go_ret
      exact ⟨ret_bool HG.out, HU.out.trans hz⟩
    cases f2
    · have HG : Hid (false = r) := Lib.hid HR2.out
      refine wp_region_ext (by kernel_rfl) (by kernel_rfl) ?_
      repeat (go_big_quiet_step (first | (go_at_call 42; (first | (with_reducible exact Calls.ext_of (H0.out _)) | (with_reducible exact Calls.ext_of (H1.out _)) | (with_reducible exact Calls.ext_of (H2.out _)))) | (go_at_call 43; exact Calls.ext_of (HVL.out _))))
      refine wpQuiet_nil ?_
      intro z hz
      go_wp2
      go_ret
      exact ⟨ret_bool HG.out, HU.out.trans hz⟩
    cases vl
    · have HG : Hid (false = r) := Lib.hid HR2.out
      refine wp_region_ext (by kernel_rfl) (by kernel_rfl) ?_
      repeat (go_big_quiet_step (first | (go_at_call 42; (first | (with_reducible exact Calls.ext_of (H0.out _)) | (with_reducible exact Calls.ext_of (H1.out _)) | (with_reducible exact Calls.ext_of (H2.out _)))) | (go_at_call 43; exact Calls.ext_of (HVL.out _))))
      refine wpQuiet_nil ?_
      intro z hz
      go_wp2
      go_ret
      exact ⟨ret_bool HG.out, HU.out.trans hz⟩
    refine wp_region_ext (by kernel_rfl) (by kernel_rfl) ?_
    repeat (go_big_quiet_step (first | (go_at_call 42; (first | (with_reducible exact Calls.ext_of (H0.out _)) | (with_reducible exact Calls.ext_of (H1.out _)) | (with_reducible exact Calls.ext_of (H2.out _)))) | (go_at_call 43; exact Calls.ext_of (HVL.out _))))
    refine wpQuiet_nil ?_
    intro z hz
    obtain ⟨ty, hty⟩ : ∃ ty, typedB (o : Int) = ty := ⟨_, rfl⟩
    have HTD := Lib.hid hty
    have HG : Hid ((if ty then typB (kd, bi, fr, ro, ov) else decide (kd = 0 ∧ bi = 0 ∧ fr = 0 ∧ ro = 0 ∧ ov = 0)) = r) := Lib.hid (by have := HR2.out; rw [hty] at this; exact this)
    have HUz := Lib.hid (HU.out.trans hz)
    have HBz := Lib.hid (HB0.out.up hz)
    clear x0' x1 x2 x3 x4 x5 x6 x7 x8 x9 x10 hz hty
    obtain ⟨x0', x1, x2, x3, x4, x5, x6, x7, x8, x9, x10⟩ := HBz.out.all
    cases ty
    · go_wp2_with (go_at_call 44; refine (r47_typed _ _ HTD.out _).mono ?_; rintro e' q ⟨rfl, rfl⟩)
      all_goals try simp only [Bool.not_eq_false', Bool.not_eq_true', bne_iff_ne, ne_eq, bne_eq_false_iff_eq, beq_iff_eq, beq_eq_false_iff_ne, decide_eq_true_eq, decide_eq_false_iff_not] at *
      all_goals
        go_ret
        exact ⟨ret_bool (by rw [← HG.out, Bool.eq_iff_iff]; simp [*]), HUz.out⟩
    · go_wp2_with (go_at_call 44; refine (r47_typed _ _ HTD.out _).mono ?_; rintro e' q ⟨rfl, rfl⟩)
      refine (HTY.out _).mono ?_
      rintro e' q2 ⟨rfl, hq⟩
      go_wp2
      go_ret
      exact ⟨ret_bool HG.out, HUz.out.trans hq⟩
  · have hk2 : knownB x.1 = false := by simpa using hk
    have HG : Hid (false = r) := Lib.hid (by rw [← HR.out, formB, hk2]; rfl)
    have HMN : Hid (∀ w, Calls Tryz.prog 15 #[.int .i64 x.1] w fun e w' => e = .returned (.string ⟨#[]⟩) ∧ Up w w') := Lib.hid (fun w => r47_Mnemonic_no _ hk2 w)
    obtain ⟨op, A, b, c, ⟨n, d⟩, kd, bi, fr, ro, ov⟩ := x
    have HU := Lib.hid ((Up.refl w).alloc (.cells #[.int .i64 op, .int .i64 A, .int .i64 b, .int .i64 c, .int .i64 n, .int .i64 d, .int .i64 kd, .int .i64 bi, .int .i64 fr, .int .i64 ro, .int .i64 ov] 42))
    dsimp only at HMN
    clear hr hx hk hk2 HR HVL HB0 HTY
    go_enter Tryz.func19, Tryz.ntmps19
    go_wp2_with (go_at_call 15; refine (HMN.out _).mono ?_; rintro e' y ⟨rfl, hy⟩; have HU := Lib.hid (HU.out.trans hy); clear hy)
    go_ret
    exact ⟨ret_bool HG.out, HU.out⟩
end Go.Proofs.YtlglfdhiopnglaaGreatDoor
end

section
namespace Go.Proofs.YtlglfdhiopnglaaGreatDoor
open Go.ChangeShapes Go.WideShapes Go.ChangeAt Go.RowKit
set_option linter.unusedVariables false
set_option linter.unusedSimpArgs false
set_option maxRecDepth 100000

set_option maxHeartbeats 8000000 in
theorem wf_form (x : Ins) : wfB x = formB x := by
  obtain ⟨op, A, b, c, ⟨n, d⟩, kd, bi, fr, ro, ov⟩ := x
  by_cases hk : knownB op = true
  · obtain ⟨o, rfl⟩ : ∃ o : Nat, op = o := ⟨op.toNat, by simp [knownB] at hk; omega⟩
    have ho : o < 17 := by simp [knownB] at hk; omega
    clear hk
    rw [Bool.eq_iff_iff]
    by_cases h8 : n = 8
    · subst h8
      obtain ⟨vf, hvf⟩ : ∃ vf, validF 8 d = vf := ⟨_, rfl⟩
      obtain ⟨tb, htb⟩ : ∃ tb, typB (kd, bi, fr, ro, ov) = tb := ⟨_, rfl⟩
      rcases (by omega : o = 0 ∨ o = 1 ∨ o = 2 ∨ o = 3 ∨ o = 4 ∨ o = 5 ∨ o = 6 ∨ o = 7 ∨ o = 8 ∨ o = 9 ∨ o = 10 ∨ o = 11 ∨ o = 12 ∨ o = 13 ∨ o = 14 ∨ o = 15 ∨ o = 16) with rfl | rfl | rfl | rfl | rfl | rfl | rfl | rfl | rfl | rfl | rfl | rfl | rfl | rfl | rfl | rfl | rfl
      all_goals cases vf <;> cases tb
      all_goals simp [hvf, htb, wfB, formB, opsF, tabF, tabL, skB, wfG, eqI, keepF, fitsB, kdN, kdS, fieldB, vlB, numB, inB, knownB, typedB]
      all_goals try omega
    · have hd : True := trivial
      obtain ⟨vf, hvf⟩ : ∃ vf, validF n d = vf := ⟨_, rfl⟩
      obtain ⟨tb, htb⟩ : ∃ tb, typB (kd, bi, fr, ro, ov) = tb := ⟨_, rfl⟩
      rcases (by omega : o = 0 ∨ o = 1 ∨ o = 2 ∨ o = 3 ∨ o = 4 ∨ o = 5 ∨ o = 6 ∨ o = 7 ∨ o = 8 ∨ o = 9 ∨ o = 10 ∨ o = 11 ∨ o = 12 ∨ o = 13 ∨ o = 14 ∨ o = 15 ∨ o = 16) with rfl | rfl | rfl | rfl | rfl | rfl | rfl | rfl | rfl | rfl | rfl | rfl | rfl | rfl | rfl | rfl | rfl
      all_goals cases vf <;> cases tb
      all_goals simp [h8, hvf, htb, wfB, formB, opsF, tabF, tabL, skB, wfG, eqI, keepF, fitsB, kdN, kdS, fieldB, vlB, numB, inB, knownB, typedB]
      all_goals try omega
  · have hk2 : knownB op = false := by simpa using hk
    simp [wfB, formB, hk2]
end Go.Proofs.YtlglfdhiopnglaaGreatDoor
end
