/-
  The reference 47 as text: Line.
-/
import Derived.Test.YtlglfdhiopnglaaGreatDoorIsKd
import Derived.Test.YtlglfdhiopnglaaGreatDoorGj
namespace Go.Proofs.YtlglfdhiopnglaaGreatDoor
open Go.ChangeShapes Go.WideShapes Go.ChangeAt Go.RowKit
set_option linter.unusedVariables false
set_option linter.unusedSimpArgs false
set_option maxRecDepth 100000

/-- The line, part by part. -/
def lnL (x : Ins) : List UInt8 :=
  (mnS x.1.toNat).data.toList ++ ((if named x.1.toNat then 32 :: opnL x.2.2.2.2.1.1 else []) ++ (ofdL (kdN x.1.toNat 0) x.2.1 ++ (ofdL (kdN x.1.toNat 1) x.2.2.1 ++ ((if x.1 = 9 then 32 :: frcL x.2.2.2.2.1.1 x.2.2.2.2.1.2 else if valued x.1.toNat then 32 :: Lib.itoa x.2.2.2.2.1.1 else []) ++
    ((if x.1 = 12 ∧ x.2.2.2.2.1.1 = 8 then [] else ofdL (kdN x.1.toNat 2) x.2.2.2.1) ++ (if typedB x.1 then 32 :: typL x.2.2.2.2.2 else []))))))
theorem ite_fm (p : Prop) [Decidable p] (a b : List (List UInt8)) (g : List UInt8 → List UInt8) : (if p then a else b).flatMap g = if p then a.flatMap g else b.flatMap g := by split <;> rfl
theorem join_words (m : List UInt8) (ws : List (List UInt8)) : Lib.join (m :: ws) [32] = m ++ ws.flatMap fun w => 32 :: w := by
  rw [Lib.join_cons]; unfold Lib.joinTail; rw [List.flatMap_def]; rfl
theorem fldW_fm (k n : Int) : ((fldW k n).flatMap fun w => 32 :: w) = ofdL k n := by unfold fldW ofdL; split <;> simp
theorem typW_fm (t : Typ) : ((typW t).flatMap fun w => 32 :: w) = 32 :: typL t := by
  rw [← typW_join]
  cases h : typW t with
  | nil => exact absurd h (typW_ne t)
  | cons m r => rw [join_words, List.flatMap_cons]; rfl
theorem lineL_lnL (x : Ins) (h : knownB x.1 = true) : lineL x = lnL x := by
  rw [← lineW_join, lineW_rlW x h]
  unfold rlW lnL
  rw [join_words]
  simp only [List.flatMap_append, fldW_fm, ite_fm, typW_fm, List.flatMap_cons, List.flatMap_nil, List.append_nil]

set_option maxHeartbeats 16000000 in
theorem r47_Line (x : Ins) (hx : InR x) (hf : formB x = true) (w : World) :
    Calls Tryz.prog 35 #[insV x] w fun e' w' => e' = .returned (.string (bst (lineL x))) ∧ Up w w' := by
  have hk : knownB x.1 = true := by unfold formB at hf; simp only [Bool.and_eq_true] at hf; exact hf.1
  have hlen := lineL_len hx
  rw [lineL_lnL x hk] at hlen ⊢
  have HB0 : Hid (BoxI (w.alloc (.cells #[.int .i64 x.1, .int .i64 x.2.1, .int .i64 x.2.2.1, .int .i64 x.2.2.2.1, .int .i64 x.2.2.2.2.1.1, .int .i64 x.2.2.2.2.1.2, .int .i64 x.2.2.2.2.2.1, .int .i64 x.2.2.2.2.2.2.1, .int .i64 x.2.2.2.2.2.2.2.1, .int .i64 x.2.2.2.2.2.2.2.2.1, .int .i64 x.2.2.2.2.2.2.2.2.2] 42)) w.heap.size x) := Lib.hid (BoxI.new w x rfl)
  have HU := Lib.hid ((Up.refl w).alloc (.cells #[.int .i64 x.1, .int .i64 x.2.1, .int .i64 x.2.2.1, .int .i64 x.2.2.2.1, .int .i64 x.2.2.2.2.1.1, .int .i64 x.2.2.2.2.1.2, .int .i64 x.2.2.2.2.2.1, .int .i64 x.2.2.2.2.2.2.1, .int .i64 x.2.2.2.2.2.2.2.1, .int .i64 x.2.2.2.2.2.2.2.2.1, .int .i64 x.2.2.2.2.2.2.2.2.2] 42))
  have hty : typedB x.1 = true → typB x.2.2.2.2.2 = true := fun h => by
    unfold formB at hf; simp only [Bool.and_eq_true] at hf
    have := hf.2.2.2.2.2; rw [h] at this; exact this
  have hvl : vlB x = true := by unfold formB at hf; simp only [Bool.and_eq_true] at hf; exact hf.2.2.2.2.1
  clear hf
  obtain ⟨op, A, b, c, ⟨n, d⟩, kd, bi, fr, ro, ov⟩ := x
  have hA : R64 A := hx 1
  have hb : R64 b := hx 2
  have hc : R64 c := hx 3
  have hn : R64 n := hx 4
  have hd : R64 d := hx 5
  have htr : TyR (kd, bi, fr, ro, ov) := fun j => by
    rcases (by omega : j = 0 ∨ j = 1 ∨ j = 2 ∨ j = 3 ∨ 4 ≤ j) with rfl | rfl | rfl | rfl | hj
    · exact hx 6
    · exact hx 7
    · exact hx 8
    · exact hx 9
    · obtain ⟨j, rfl⟩ : ∃ i, j = 4 + i := ⟨j - 4, by omega⟩
      rw [show typC (kd, bi, fr, ro, ov) (4 + j) = ov by rw [Nat.add_comm]; rfl]
      exact hx 10
  have HON : Hid (op = 12 ∨ op = 14 → ∀ w, Calls Tryz.prog 57 #[.int .i64 n] w fun e w' => e = .returned (.string (bst (opnL n))) ∧ Up w w') := Lib.hid (fun h w => r47_operator n (by
    unfold vlB at hvl; dsimp only at hvl
    rcases h with rfl | rfl
    · rw [if_neg (by decide), if_neg (by decide), if_pos rfl] at hvl
      simp only [numB, Bool.and_eq_true, decide_eq_true_eq] at hvl
      exact .inl hvl.1.2
    · rw [if_neg (by decide), if_neg (by decide), if_neg (by decide), if_neg (by decide), if_pos rfl] at hvl
      simp only [numB, decide_eq_true_eq] at hvl
      exact .inr hvl.2) w)
  dsimp only at hk hty hlen
  have HKD : Hid (typedB op = true → ∀ w, Calls Tryz.prog 61 #[typV (kd, bi, fr, ro, ov)] w fun e w' => e = .returned (.string (bst (typL (kd, bi, fr, ro, ov)))) ∧ Up w w') := Lib.hid (fun h w => r47_kind _ htr (hty h) w)
  obtain ⟨o, hop, ho⟩ : ∃ o : Nat, op = o ∧ o < 17 := by
    unfold knownB at hk
    simp only [decide_eq_true_eq] at hk
    exact ⟨op.toNat, by omega, by omega⟩
  have htn : op.toNat = o := by omega
  have HMN : Hid (∀ w, Calls Tryz.prog 15 #[.int .i64 op] w fun e w' => e = .returned (.string (mnS o)) ∧ Up w w') := Lib.hid (fun w => hop ▸ r47_Mnemonic o ho w)
  have HOP : Hid (∀ w, Calls Tryz.prog 41 #[.int .i64 op] w fun e w' => e = .returned (.string (kdS o)) ∧ Up w w') := Lib.hid (fun w => hop ▸ r47_operands o ho w)
  have i0 : ∀ w, (Instr.index 9 (.string (kdS o)) (.int .i64 0)).run Tryz.prog w = .ok (.int .u8 (kdN o 0)) w := fun w => kd_index o 0 ho (by omega) w
  have i1 : ∀ w, (Instr.index 9 (.string (kdS o)) (.int .i64 1)).run Tryz.prog w = .ok (.int .u8 (kdN o 1)) w := fun w => kd_index o 1 ho (by omega) w
  have i2 : ∀ w, (Instr.index 9 (.string (kdS o)) (.int .i64 2)).run Tryz.prog w = .ok (.int .u8 (kdN o 2)) w := fun w => kd_index o 2 ho (by omega) w
  have HF0 : Hid (∀ w, Calls Tryz.prog 58 #[.int .u8 (kdN o 0), .int .i64 A] w fun e w' => e = .returned (.string (bst (ofdL (kdN o 0) A))) ∧ Up w w') := Lib.hid (fun w => r47_operand _ _ hA w)
  have HF1 : Hid (∀ w, Calls Tryz.prog 58 #[.int .u8 (kdN o 1), .int .i64 b] w fun e w' => e = .returned (.string (bst (ofdL (kdN o 1) b))) ∧ Up w w') := Lib.hid (fun w => r47_operand _ _ hb w)
  have HF2 : Hid (∀ w, Calls Tryz.prog 58 #[.int .u8 (kdN o 2), .int .i64 c] w fun e w' => e = .returned (.string (bst (ofdL (kdN o 2) c))) ∧ Up w w') := Lib.hid (fun w => r47_operand _ _ hc w)
  have HDG := Lib.hid (fun w => r01_Digits n hn w)
  have HFR := Lib.hid (fun w => r01_Format n d hn hd w)
  dsimp only [insV, typV] at HB0 HU HKD ⊢
  clear hx hvl hk hty htr hA hb hc hn hd
  unfold lnL at hlen ⊢
  dsimp only at hlen ⊢
  rw [htn] at hlen ⊢
  clear htn
  generalize ofdL (kdN o 0) A = t0 at *
  generalize ofdL (kdN o 1) b = t1 at *
  generalize ofdL (kdN o 2) c = t2 at *
  generalize frcL n d = tf at *
  generalize Lib.itoa n = td at *
  generalize opnL n = tn at *
  generalize typL (kd, bi, fr, ro, ov) = tt at *
  generalize kdN o 0 = K0 at *
  generalize kdN o 1 = K1 at *
  generalize kdN o 2 = K2 at *
  generalize kdS o = KD at *
  obtain ⟨ml, hml⟩ : ∃ l, (mnS o).data.toList = l := ⟨_, rfl⟩
  have hM : mnS o = bst ml := by rw [← hml]; rfl
  rw [hM] at HMN
  rw [hml] at hlen ⊢
  clear hM hml
  obtain ⟨T, hT⟩ : ∃ T, (ml ++ ((if named o then 32 :: tn else []) ++ (t0 ++ (t1 ++ ((if op = 9 then 32 :: tf else if valued o then 32 :: td else []) ++
    ((if op = 12 ∧ n = 8 then [] else t2) ++ (if typedB op then 32 :: tt else []))))))) = T := ⟨_, rfl⟩
  rw [hT] at hlen ⊢
  have HT := Lib.hid hT
  clear hT
  have HLN := Lib.hid hlen
  clear hlen
  rcases (by omega : o = 0 ∨ o = 1 ∨ o = 2 ∨ o = 3 ∨ o = 4 ∨ o = 5 ∨ o = 6 ∨ o = 7 ∨ o = 8 ∨ o = 9 ∨ o = 10 ∨ o = 11 ∨ o = 12 ∨ o = 13 ∨ o = 14 ∨ o = 15 ∨ o = 16) with rfl | rfl | rfl | rfl | rfl | rfl | rfl | rfl | rfl | rfl | rfl | rfl | rfl | rfl | rfl | rfl | rfl
  · have hq : op = 0 := by omega
    clear hop ho
    subst hq
    have HE : Hid (ml ++ t0 ++ t1 ++ t2 = T) := Lib.hid (by rw [← HT.out]; simp [named, valued, typedB])
    have hl : ml.length + t0.length + t1.length + t2.length ≤ 366 := by
      have h1 := congrArg List.length HE.out
      have h2 := HLN.out
      simp only [List.length_append, List.length_cons, List.length_nil] at h1
      omega
    have k1 := cat (A := bst ml) (B := bst t0) (a := ml) (b := t0) rfl rfl rfl (by (try simp only [List.length_append, List.length_cons, List.length_nil]); omega) (by (try simp only [List.length_append, List.length_cons, List.length_nil]); omega)
    have k2 := cat (A := bst (ml ++ t0)) (B := bst t1) (a := (ml ++ t0)) (b := t1) rfl rfl rfl (by (try simp only [List.length_append, List.length_cons, List.length_nil]); omega) (by (try simp only [List.length_append, List.length_cons, List.length_nil]); omega)
    have k3 := cat (A := bst ((ml ++ t0) ++ t1)) (B := bst t2) (a := ((ml ++ t0) ++ t1)) (b := t2) rfl rfl rfl (by (try simp only [List.length_append, List.length_cons, List.length_nil]); omega) (by (try simp only [List.length_append, List.length_cons, List.length_nil]); omega)
    obtain ⟨s1, hs1⟩ : ∃ s, ml ++ t0 = s := ⟨_, rfl⟩
    rw [hs1] at k1 k2 k3 HE
    clear hs1
    obtain ⟨s2, hs2⟩ : ∃ s, s1 ++ t1 = s := ⟨_, rfl⟩
    rw [hs2] at k2 k3 HE
    clear hs2
    rw [HE.out] at k3
    clear hl HE HT HLN
    go_enter Tryz.func35, Tryz.ntmps35
    go_wp2_with (first | (go_at_call 15; refine (HMN.out _).mono ?_; rintro e' y1 ⟨rfl, hy⟩; have HU := Lib.hid (HU.out.trans hy); have HB0 := Lib.hid (HB0.out.up hy); obtain ⟨x0, x1, x2, x3, x4, x5, x6, x7, x8, x9, x10⟩ := HB0.out.all; have hlt := HB0.out.lt; clear hy) | (go_at_call 41; refine (HOP.out _).mono ?_; rintro e' y2 ⟨rfl, hy⟩; have HU := Lib.hid (HU.out.trans hy); have HB0 := Lib.hid (HB0.out.up hy); obtain ⟨x0, x1, x2, x3, x4, x5, x6, x7, x8, x9, x10⟩ := HB0.out.all; have hlt := HB0.out.lt; clear hy))
    refine wp_region_ext (by kernel_rfl) (by kernel_rfl) ?_
    repeat (go_big_quiet_step (first | (go_at_call 58; first | (with_reducible exact Calls.ext_of (HF0.out _)) | (with_reducible exact Calls.ext_of (HF1.out _)) | (with_reducible exact Calls.ext_of (HF2.out _)))))
    refine wpQuiet_nil ?_
    intro z5 hz
    have HU := Lib.hid (HU.out.trans hz)
    have HB0 := Lib.hid (HB0.out.up hz)
    clear x0 x1 x2 x3 x4 x5 x6 x7 x8 x9 x10 hz hlt
    obtain ⟨x0, x1, x2, x3, x4, x5, x6, x7, x8, x9, x10⟩ := HB0.out.all
    have hlt := HB0.out.lt
    go_wp2_with fail
    refine wp_region_ext (by kernel_rfl) (by kernel_rfl) ?_
    repeat (go_big_quiet_step (first | (go_at_call 58; first | (with_reducible exact Calls.ext_of (HF0.out _)) | (with_reducible exact Calls.ext_of (HF1.out _)) | (with_reducible exact Calls.ext_of (HF2.out _)))))
    refine wpQuiet_nil ?_
    intro z14 hz
    have HU := Lib.hid (HU.out.trans hz)
    have HB0 := Lib.hid (HB0.out.up hz)
    clear x0 x1 x2 x3 x4 x5 x6 x7 x8 x9 x10 hz hlt
    obtain ⟨x0, x1, x2, x3, x4, x5, x6, x7, x8, x9, x10⟩ := HB0.out.all
    have hlt := HB0.out.lt
    go_wp2_with (first | (go_at_call 44; refine (r47_typed _ false (by decide) _).mono ?_; rintro e' y5 ⟨rfl, rfl⟩))
    go_ret
    exact ⟨rfl, HU.out⟩
  · have hq : op = 1 := by omega
    clear hop ho
    subst hq
    have HE : Hid (ml ++ t0 ++ t1 ++ t2 = T) := Lib.hid (by rw [← HT.out]; simp [named, valued, typedB])
    have hl : ml.length + t0.length + t1.length + t2.length ≤ 366 := by
      have h1 := congrArg List.length HE.out
      have h2 := HLN.out
      simp only [List.length_append, List.length_cons, List.length_nil] at h1
      omega
    have k1 := cat (A := bst ml) (B := bst t0) (a := ml) (b := t0) rfl rfl rfl (by (try simp only [List.length_append, List.length_cons, List.length_nil]); omega) (by (try simp only [List.length_append, List.length_cons, List.length_nil]); omega)
    have k2 := cat (A := bst (ml ++ t0)) (B := bst t1) (a := (ml ++ t0)) (b := t1) rfl rfl rfl (by (try simp only [List.length_append, List.length_cons, List.length_nil]); omega) (by (try simp only [List.length_append, List.length_cons, List.length_nil]); omega)
    have k3 := cat (A := bst ((ml ++ t0) ++ t1)) (B := bst t2) (a := ((ml ++ t0) ++ t1)) (b := t2) rfl rfl rfl (by (try simp only [List.length_append, List.length_cons, List.length_nil]); omega) (by (try simp only [List.length_append, List.length_cons, List.length_nil]); omega)
    obtain ⟨s1, hs1⟩ : ∃ s, ml ++ t0 = s := ⟨_, rfl⟩
    rw [hs1] at k1 k2 k3 HE
    clear hs1
    obtain ⟨s2, hs2⟩ : ∃ s, s1 ++ t1 = s := ⟨_, rfl⟩
    rw [hs2] at k2 k3 HE
    clear hs2
    rw [HE.out] at k3
    clear hl HE HT HLN
    go_enter Tryz.func35, Tryz.ntmps35
    go_wp2_with (first | (go_at_call 15; refine (HMN.out _).mono ?_; rintro e' y1 ⟨rfl, hy⟩; have HU := Lib.hid (HU.out.trans hy); have HB0 := Lib.hid (HB0.out.up hy); obtain ⟨x0, x1, x2, x3, x4, x5, x6, x7, x8, x9, x10⟩ := HB0.out.all; have hlt := HB0.out.lt; clear hy) | (go_at_call 41; refine (HOP.out _).mono ?_; rintro e' y2 ⟨rfl, hy⟩; have HU := Lib.hid (HU.out.trans hy); have HB0 := Lib.hid (HB0.out.up hy); obtain ⟨x0, x1, x2, x3, x4, x5, x6, x7, x8, x9, x10⟩ := HB0.out.all; have hlt := HB0.out.lt; clear hy))
    refine wp_region_ext (by kernel_rfl) (by kernel_rfl) ?_
    repeat (go_big_quiet_step (first | (go_at_call 58; first | (with_reducible exact Calls.ext_of (HF0.out _)) | (with_reducible exact Calls.ext_of (HF1.out _)) | (with_reducible exact Calls.ext_of (HF2.out _)))))
    refine wpQuiet_nil ?_
    intro z5 hz
    have HU := Lib.hid (HU.out.trans hz)
    have HB0 := Lib.hid (HB0.out.up hz)
    clear x0 x1 x2 x3 x4 x5 x6 x7 x8 x9 x10 hz hlt
    obtain ⟨x0, x1, x2, x3, x4, x5, x6, x7, x8, x9, x10⟩ := HB0.out.all
    have hlt := HB0.out.lt
    go_wp2_with fail
    refine wp_region_ext (by kernel_rfl) (by kernel_rfl) ?_
    repeat (go_big_quiet_step (first | (go_at_call 58; first | (with_reducible exact Calls.ext_of (HF0.out _)) | (with_reducible exact Calls.ext_of (HF1.out _)) | (with_reducible exact Calls.ext_of (HF2.out _)))))
    refine wpQuiet_nil ?_
    intro z14 hz
    have HU := Lib.hid (HU.out.trans hz)
    have HB0 := Lib.hid (HB0.out.up hz)
    clear x0 x1 x2 x3 x4 x5 x6 x7 x8 x9 x10 hz hlt
    obtain ⟨x0, x1, x2, x3, x4, x5, x6, x7, x8, x9, x10⟩ := HB0.out.all
    have hlt := HB0.out.lt
    go_wp2_with (first | (go_at_call 44; refine (r47_typed _ false (by decide) _).mono ?_; rintro e' y5 ⟨rfl, rfl⟩))
    go_ret
    exact ⟨rfl, HU.out⟩
  · have hq : op = 2 := by omega
    clear hop ho
    subst hq
    have HE : Hid (ml ++ t0 ++ t1 ++ t2 = T) := Lib.hid (by rw [← HT.out]; simp [named, valued, typedB])
    have hl : ml.length + t0.length + t1.length + t2.length ≤ 366 := by
      have h1 := congrArg List.length HE.out
      have h2 := HLN.out
      simp only [List.length_append, List.length_cons, List.length_nil] at h1
      omega
    have k1 := cat (A := bst ml) (B := bst t0) (a := ml) (b := t0) rfl rfl rfl (by (try simp only [List.length_append, List.length_cons, List.length_nil]); omega) (by (try simp only [List.length_append, List.length_cons, List.length_nil]); omega)
    have k2 := cat (A := bst (ml ++ t0)) (B := bst t1) (a := (ml ++ t0)) (b := t1) rfl rfl rfl (by (try simp only [List.length_append, List.length_cons, List.length_nil]); omega) (by (try simp only [List.length_append, List.length_cons, List.length_nil]); omega)
    have k3 := cat (A := bst ((ml ++ t0) ++ t1)) (B := bst t2) (a := ((ml ++ t0) ++ t1)) (b := t2) rfl rfl rfl (by (try simp only [List.length_append, List.length_cons, List.length_nil]); omega) (by (try simp only [List.length_append, List.length_cons, List.length_nil]); omega)
    obtain ⟨s1, hs1⟩ : ∃ s, ml ++ t0 = s := ⟨_, rfl⟩
    rw [hs1] at k1 k2 k3 HE
    clear hs1
    obtain ⟨s2, hs2⟩ : ∃ s, s1 ++ t1 = s := ⟨_, rfl⟩
    rw [hs2] at k2 k3 HE
    clear hs2
    rw [HE.out] at k3
    clear hl HE HT HLN
    go_enter Tryz.func35, Tryz.ntmps35
    go_wp2_with (first | (go_at_call 15; refine (HMN.out _).mono ?_; rintro e' y1 ⟨rfl, hy⟩; have HU := Lib.hid (HU.out.trans hy); have HB0 := Lib.hid (HB0.out.up hy); obtain ⟨x0, x1, x2, x3, x4, x5, x6, x7, x8, x9, x10⟩ := HB0.out.all; have hlt := HB0.out.lt; clear hy) | (go_at_call 41; refine (HOP.out _).mono ?_; rintro e' y2 ⟨rfl, hy⟩; have HU := Lib.hid (HU.out.trans hy); have HB0 := Lib.hid (HB0.out.up hy); obtain ⟨x0, x1, x2, x3, x4, x5, x6, x7, x8, x9, x10⟩ := HB0.out.all; have hlt := HB0.out.lt; clear hy))
    refine wp_region_ext (by kernel_rfl) (by kernel_rfl) ?_
    repeat (go_big_quiet_step (first | (go_at_call 58; first | (with_reducible exact Calls.ext_of (HF0.out _)) | (with_reducible exact Calls.ext_of (HF1.out _)) | (with_reducible exact Calls.ext_of (HF2.out _)))))
    refine wpQuiet_nil ?_
    intro z5 hz
    have HU := Lib.hid (HU.out.trans hz)
    have HB0 := Lib.hid (HB0.out.up hz)
    clear x0 x1 x2 x3 x4 x5 x6 x7 x8 x9 x10 hz hlt
    obtain ⟨x0, x1, x2, x3, x4, x5, x6, x7, x8, x9, x10⟩ := HB0.out.all
    have hlt := HB0.out.lt
    go_wp2_with fail
    refine wp_region_ext (by kernel_rfl) (by kernel_rfl) ?_
    repeat (go_big_quiet_step (first | (go_at_call 58; first | (with_reducible exact Calls.ext_of (HF0.out _)) | (with_reducible exact Calls.ext_of (HF1.out _)) | (with_reducible exact Calls.ext_of (HF2.out _)))))
    refine wpQuiet_nil ?_
    intro z14 hz
    have HU := Lib.hid (HU.out.trans hz)
    have HB0 := Lib.hid (HB0.out.up hz)
    clear x0 x1 x2 x3 x4 x5 x6 x7 x8 x9 x10 hz hlt
    obtain ⟨x0, x1, x2, x3, x4, x5, x6, x7, x8, x9, x10⟩ := HB0.out.all
    have hlt := HB0.out.lt
    go_wp2_with (first | (go_at_call 44; refine (r47_typed _ false (by decide) _).mono ?_; rintro e' y5 ⟨rfl, rfl⟩))
    go_ret
    exact ⟨rfl, HU.out⟩
  · have hq : op = 3 := by omega
    clear hop ho
    subst hq
    have HE : Hid (ml ++ t0 ++ t1 ++ t2 = T) := Lib.hid (by rw [← HT.out]; simp [named, valued, typedB])
    have hl : ml.length + t0.length + t1.length + t2.length ≤ 366 := by
      have h1 := congrArg List.length HE.out
      have h2 := HLN.out
      simp only [List.length_append, List.length_cons, List.length_nil] at h1
      omega
    have k1 := cat (A := bst ml) (B := bst t0) (a := ml) (b := t0) rfl rfl rfl (by (try simp only [List.length_append, List.length_cons, List.length_nil]); omega) (by (try simp only [List.length_append, List.length_cons, List.length_nil]); omega)
    have k2 := cat (A := bst (ml ++ t0)) (B := bst t1) (a := (ml ++ t0)) (b := t1) rfl rfl rfl (by (try simp only [List.length_append, List.length_cons, List.length_nil]); omega) (by (try simp only [List.length_append, List.length_cons, List.length_nil]); omega)
    have k3 := cat (A := bst ((ml ++ t0) ++ t1)) (B := bst t2) (a := ((ml ++ t0) ++ t1)) (b := t2) rfl rfl rfl (by (try simp only [List.length_append, List.length_cons, List.length_nil]); omega) (by (try simp only [List.length_append, List.length_cons, List.length_nil]); omega)
    obtain ⟨s1, hs1⟩ : ∃ s, ml ++ t0 = s := ⟨_, rfl⟩
    rw [hs1] at k1 k2 k3 HE
    clear hs1
    obtain ⟨s2, hs2⟩ : ∃ s, s1 ++ t1 = s := ⟨_, rfl⟩
    rw [hs2] at k2 k3 HE
    clear hs2
    rw [HE.out] at k3
    clear hl HE HT HLN
    go_enter Tryz.func35, Tryz.ntmps35
    go_wp2_with (first | (go_at_call 15; refine (HMN.out _).mono ?_; rintro e' y1 ⟨rfl, hy⟩; have HU := Lib.hid (HU.out.trans hy); have HB0 := Lib.hid (HB0.out.up hy); obtain ⟨x0, x1, x2, x3, x4, x5, x6, x7, x8, x9, x10⟩ := HB0.out.all; have hlt := HB0.out.lt; clear hy) | (go_at_call 41; refine (HOP.out _).mono ?_; rintro e' y2 ⟨rfl, hy⟩; have HU := Lib.hid (HU.out.trans hy); have HB0 := Lib.hid (HB0.out.up hy); obtain ⟨x0, x1, x2, x3, x4, x5, x6, x7, x8, x9, x10⟩ := HB0.out.all; have hlt := HB0.out.lt; clear hy))
    refine wp_region_ext (by kernel_rfl) (by kernel_rfl) ?_
    repeat (go_big_quiet_step (first | (go_at_call 58; first | (with_reducible exact Calls.ext_of (HF0.out _)) | (with_reducible exact Calls.ext_of (HF1.out _)) | (with_reducible exact Calls.ext_of (HF2.out _)))))
    refine wpQuiet_nil ?_
    intro z5 hz
    have HU := Lib.hid (HU.out.trans hz)
    have HB0 := Lib.hid (HB0.out.up hz)
    clear x0 x1 x2 x3 x4 x5 x6 x7 x8 x9 x10 hz hlt
    obtain ⟨x0, x1, x2, x3, x4, x5, x6, x7, x8, x9, x10⟩ := HB0.out.all
    have hlt := HB0.out.lt
    go_wp2_with fail
    refine wp_region_ext (by kernel_rfl) (by kernel_rfl) ?_
    repeat (go_big_quiet_step (first | (go_at_call 58; first | (with_reducible exact Calls.ext_of (HF0.out _)) | (with_reducible exact Calls.ext_of (HF1.out _)) | (with_reducible exact Calls.ext_of (HF2.out _)))))
    refine wpQuiet_nil ?_
    intro z14 hz
    have HU := Lib.hid (HU.out.trans hz)
    have HB0 := Lib.hid (HB0.out.up hz)
    clear x0 x1 x2 x3 x4 x5 x6 x7 x8 x9 x10 hz hlt
    obtain ⟨x0, x1, x2, x3, x4, x5, x6, x7, x8, x9, x10⟩ := HB0.out.all
    have hlt := HB0.out.lt
    go_wp2_with (first | (go_at_call 44; refine (r47_typed _ false (by decide) _).mono ?_; rintro e' y5 ⟨rfl, rfl⟩))
    go_ret
    exact ⟨rfl, HU.out⟩
  · have hq : op = 4 := by omega
    clear hop ho
    subst hq
    have HE : Hid (ml ++ t0 ++ t1 ++ t2 = T) := Lib.hid (by rw [← HT.out]; simp [named, valued, typedB])
    have hl : ml.length + t0.length + t1.length + t2.length ≤ 366 := by
      have h1 := congrArg List.length HE.out
      have h2 := HLN.out
      simp only [List.length_append, List.length_cons, List.length_nil] at h1
      omega
    have k1 := cat (A := bst ml) (B := bst t0) (a := ml) (b := t0) rfl rfl rfl (by (try simp only [List.length_append, List.length_cons, List.length_nil]); omega) (by (try simp only [List.length_append, List.length_cons, List.length_nil]); omega)
    have k2 := cat (A := bst (ml ++ t0)) (B := bst t1) (a := (ml ++ t0)) (b := t1) rfl rfl rfl (by (try simp only [List.length_append, List.length_cons, List.length_nil]); omega) (by (try simp only [List.length_append, List.length_cons, List.length_nil]); omega)
    have k3 := cat (A := bst ((ml ++ t0) ++ t1)) (B := bst t2) (a := ((ml ++ t0) ++ t1)) (b := t2) rfl rfl rfl (by (try simp only [List.length_append, List.length_cons, List.length_nil]); omega) (by (try simp only [List.length_append, List.length_cons, List.length_nil]); omega)
    obtain ⟨s1, hs1⟩ : ∃ s, ml ++ t0 = s := ⟨_, rfl⟩
    rw [hs1] at k1 k2 k3 HE
    clear hs1
    obtain ⟨s2, hs2⟩ : ∃ s, s1 ++ t1 = s := ⟨_, rfl⟩
    rw [hs2] at k2 k3 HE
    clear hs2
    rw [HE.out] at k3
    clear hl HE HT HLN
    go_enter Tryz.func35, Tryz.ntmps35
    go_wp2_with (first | (go_at_call 15; refine (HMN.out _).mono ?_; rintro e' y1 ⟨rfl, hy⟩; have HU := Lib.hid (HU.out.trans hy); have HB0 := Lib.hid (HB0.out.up hy); obtain ⟨x0, x1, x2, x3, x4, x5, x6, x7, x8, x9, x10⟩ := HB0.out.all; have hlt := HB0.out.lt; clear hy) | (go_at_call 41; refine (HOP.out _).mono ?_; rintro e' y2 ⟨rfl, hy⟩; have HU := Lib.hid (HU.out.trans hy); have HB0 := Lib.hid (HB0.out.up hy); obtain ⟨x0, x1, x2, x3, x4, x5, x6, x7, x8, x9, x10⟩ := HB0.out.all; have hlt := HB0.out.lt; clear hy))
    refine wp_region_ext (by kernel_rfl) (by kernel_rfl) ?_
    repeat (go_big_quiet_step (first | (go_at_call 58; first | (with_reducible exact Calls.ext_of (HF0.out _)) | (with_reducible exact Calls.ext_of (HF1.out _)) | (with_reducible exact Calls.ext_of (HF2.out _)))))
    refine wpQuiet_nil ?_
    intro z5 hz
    have HU := Lib.hid (HU.out.trans hz)
    have HB0 := Lib.hid (HB0.out.up hz)
    clear x0 x1 x2 x3 x4 x5 x6 x7 x8 x9 x10 hz hlt
    obtain ⟨x0, x1, x2, x3, x4, x5, x6, x7, x8, x9, x10⟩ := HB0.out.all
    have hlt := HB0.out.lt
    go_wp2_with fail
    refine wp_region_ext (by kernel_rfl) (by kernel_rfl) ?_
    repeat (go_big_quiet_step (first | (go_at_call 58; first | (with_reducible exact Calls.ext_of (HF0.out _)) | (with_reducible exact Calls.ext_of (HF1.out _)) | (with_reducible exact Calls.ext_of (HF2.out _)))))
    refine wpQuiet_nil ?_
    intro z14 hz
    have HU := Lib.hid (HU.out.trans hz)
    have HB0 := Lib.hid (HB0.out.up hz)
    clear x0 x1 x2 x3 x4 x5 x6 x7 x8 x9 x10 hz hlt
    obtain ⟨x0, x1, x2, x3, x4, x5, x6, x7, x8, x9, x10⟩ := HB0.out.all
    have hlt := HB0.out.lt
    go_wp2_with (first | (go_at_call 44; refine (r47_typed _ false (by decide) _).mono ?_; rintro e' y5 ⟨rfl, rfl⟩))
    go_ret
    exact ⟨rfl, HU.out⟩
  · have hq : op = 5 := by omega
    clear hop ho
    subst hq
    have HE : Hid (ml ++ t0 ++ t1 ++ t2 = T) := Lib.hid (by rw [← HT.out]; simp [named, valued, typedB])
    have hl : ml.length + t0.length + t1.length + t2.length ≤ 366 := by
      have h1 := congrArg List.length HE.out
      have h2 := HLN.out
      simp only [List.length_append, List.length_cons, List.length_nil] at h1
      omega
    have k1 := cat (A := bst ml) (B := bst t0) (a := ml) (b := t0) rfl rfl rfl (by (try simp only [List.length_append, List.length_cons, List.length_nil]); omega) (by (try simp only [List.length_append, List.length_cons, List.length_nil]); omega)
    have k2 := cat (A := bst (ml ++ t0)) (B := bst t1) (a := (ml ++ t0)) (b := t1) rfl rfl rfl (by (try simp only [List.length_append, List.length_cons, List.length_nil]); omega) (by (try simp only [List.length_append, List.length_cons, List.length_nil]); omega)
    have k3 := cat (A := bst ((ml ++ t0) ++ t1)) (B := bst t2) (a := ((ml ++ t0) ++ t1)) (b := t2) rfl rfl rfl (by (try simp only [List.length_append, List.length_cons, List.length_nil]); omega) (by (try simp only [List.length_append, List.length_cons, List.length_nil]); omega)
    obtain ⟨s1, hs1⟩ : ∃ s, ml ++ t0 = s := ⟨_, rfl⟩
    rw [hs1] at k1 k2 k3 HE
    clear hs1
    obtain ⟨s2, hs2⟩ : ∃ s, s1 ++ t1 = s := ⟨_, rfl⟩
    rw [hs2] at k2 k3 HE
    clear hs2
    rw [HE.out] at k3
    clear hl HE HT HLN
    go_enter Tryz.func35, Tryz.ntmps35
    go_wp2_with (first | (go_at_call 15; refine (HMN.out _).mono ?_; rintro e' y1 ⟨rfl, hy⟩; have HU := Lib.hid (HU.out.trans hy); have HB0 := Lib.hid (HB0.out.up hy); obtain ⟨x0, x1, x2, x3, x4, x5, x6, x7, x8, x9, x10⟩ := HB0.out.all; have hlt := HB0.out.lt; clear hy) | (go_at_call 41; refine (HOP.out _).mono ?_; rintro e' y2 ⟨rfl, hy⟩; have HU := Lib.hid (HU.out.trans hy); have HB0 := Lib.hid (HB0.out.up hy); obtain ⟨x0, x1, x2, x3, x4, x5, x6, x7, x8, x9, x10⟩ := HB0.out.all; have hlt := HB0.out.lt; clear hy))
    refine wp_region_ext (by kernel_rfl) (by kernel_rfl) ?_
    repeat (go_big_quiet_step (first | (go_at_call 58; first | (with_reducible exact Calls.ext_of (HF0.out _)) | (with_reducible exact Calls.ext_of (HF1.out _)) | (with_reducible exact Calls.ext_of (HF2.out _)))))
    refine wpQuiet_nil ?_
    intro z5 hz
    have HU := Lib.hid (HU.out.trans hz)
    have HB0 := Lib.hid (HB0.out.up hz)
    clear x0 x1 x2 x3 x4 x5 x6 x7 x8 x9 x10 hz hlt
    obtain ⟨x0, x1, x2, x3, x4, x5, x6, x7, x8, x9, x10⟩ := HB0.out.all
    have hlt := HB0.out.lt
    go_wp2_with fail
    refine wp_region_ext (by kernel_rfl) (by kernel_rfl) ?_
    repeat (go_big_quiet_step (first | (go_at_call 58; first | (with_reducible exact Calls.ext_of (HF0.out _)) | (with_reducible exact Calls.ext_of (HF1.out _)) | (with_reducible exact Calls.ext_of (HF2.out _)))))
    refine wpQuiet_nil ?_
    intro z14 hz
    have HU := Lib.hid (HU.out.trans hz)
    have HB0 := Lib.hid (HB0.out.up hz)
    clear x0 x1 x2 x3 x4 x5 x6 x7 x8 x9 x10 hz hlt
    obtain ⟨x0, x1, x2, x3, x4, x5, x6, x7, x8, x9, x10⟩ := HB0.out.all
    have hlt := HB0.out.lt
    go_wp2_with (first | (go_at_call 44; refine (r47_typed _ false (by decide) _).mono ?_; rintro e' y5 ⟨rfl, rfl⟩))
    go_ret
    exact ⟨rfl, HU.out⟩
  · have hq : op = 6 := by omega
    clear hop ho
    subst hq
    have HE : Hid (ml ++ t0 ++ t1 ++ t2 = T) := Lib.hid (by rw [← HT.out]; simp [named, valued, typedB])
    have hl : ml.length + t0.length + t1.length + t2.length ≤ 366 := by
      have h1 := congrArg List.length HE.out
      have h2 := HLN.out
      simp only [List.length_append, List.length_cons, List.length_nil] at h1
      omega
    have k1 := cat (A := bst ml) (B := bst t0) (a := ml) (b := t0) rfl rfl rfl (by (try simp only [List.length_append, List.length_cons, List.length_nil]); omega) (by (try simp only [List.length_append, List.length_cons, List.length_nil]); omega)
    have k2 := cat (A := bst (ml ++ t0)) (B := bst t1) (a := (ml ++ t0)) (b := t1) rfl rfl rfl (by (try simp only [List.length_append, List.length_cons, List.length_nil]); omega) (by (try simp only [List.length_append, List.length_cons, List.length_nil]); omega)
    have k3 := cat (A := bst ((ml ++ t0) ++ t1)) (B := bst t2) (a := ((ml ++ t0) ++ t1)) (b := t2) rfl rfl rfl (by (try simp only [List.length_append, List.length_cons, List.length_nil]); omega) (by (try simp only [List.length_append, List.length_cons, List.length_nil]); omega)
    obtain ⟨s1, hs1⟩ : ∃ s, ml ++ t0 = s := ⟨_, rfl⟩
    rw [hs1] at k1 k2 k3 HE
    clear hs1
    obtain ⟨s2, hs2⟩ : ∃ s, s1 ++ t1 = s := ⟨_, rfl⟩
    rw [hs2] at k2 k3 HE
    clear hs2
    rw [HE.out] at k3
    clear hl HE HT HLN
    go_enter Tryz.func35, Tryz.ntmps35
    go_wp2_with (first | (go_at_call 15; refine (HMN.out _).mono ?_; rintro e' y1 ⟨rfl, hy⟩; have HU := Lib.hid (HU.out.trans hy); have HB0 := Lib.hid (HB0.out.up hy); obtain ⟨x0, x1, x2, x3, x4, x5, x6, x7, x8, x9, x10⟩ := HB0.out.all; have hlt := HB0.out.lt; clear hy) | (go_at_call 41; refine (HOP.out _).mono ?_; rintro e' y2 ⟨rfl, hy⟩; have HU := Lib.hid (HU.out.trans hy); have HB0 := Lib.hid (HB0.out.up hy); obtain ⟨x0, x1, x2, x3, x4, x5, x6, x7, x8, x9, x10⟩ := HB0.out.all; have hlt := HB0.out.lt; clear hy))
    refine wp_region_ext (by kernel_rfl) (by kernel_rfl) ?_
    repeat (go_big_quiet_step (first | (go_at_call 58; first | (with_reducible exact Calls.ext_of (HF0.out _)) | (with_reducible exact Calls.ext_of (HF1.out _)) | (with_reducible exact Calls.ext_of (HF2.out _)))))
    refine wpQuiet_nil ?_
    intro z5 hz
    have HU := Lib.hid (HU.out.trans hz)
    have HB0 := Lib.hid (HB0.out.up hz)
    clear x0 x1 x2 x3 x4 x5 x6 x7 x8 x9 x10 hz hlt
    obtain ⟨x0, x1, x2, x3, x4, x5, x6, x7, x8, x9, x10⟩ := HB0.out.all
    have hlt := HB0.out.lt
    go_wp2_with fail
    refine wp_region_ext (by kernel_rfl) (by kernel_rfl) ?_
    repeat (go_big_quiet_step (first | (go_at_call 58; first | (with_reducible exact Calls.ext_of (HF0.out _)) | (with_reducible exact Calls.ext_of (HF1.out _)) | (with_reducible exact Calls.ext_of (HF2.out _)))))
    refine wpQuiet_nil ?_
    intro z14 hz
    have HU := Lib.hid (HU.out.trans hz)
    have HB0 := Lib.hid (HB0.out.up hz)
    clear x0 x1 x2 x3 x4 x5 x6 x7 x8 x9 x10 hz hlt
    obtain ⟨x0, x1, x2, x3, x4, x5, x6, x7, x8, x9, x10⟩ := HB0.out.all
    have hlt := HB0.out.lt
    go_wp2_with (first | (go_at_call 44; refine (r47_typed _ false (by decide) _).mono ?_; rintro e' y5 ⟨rfl, rfl⟩))
    go_ret
    exact ⟨rfl, HU.out⟩
  · have hq : op = 7 := by omega
    clear hop ho
    subst hq
    have HE : Hid (ml ++ t0 ++ t1 ++ t2 = T) := Lib.hid (by rw [← HT.out]; simp [named, valued, typedB])
    have hl : ml.length + t0.length + t1.length + t2.length ≤ 366 := by
      have h1 := congrArg List.length HE.out
      have h2 := HLN.out
      simp only [List.length_append, List.length_cons, List.length_nil] at h1
      omega
    have k1 := cat (A := bst ml) (B := bst t0) (a := ml) (b := t0) rfl rfl rfl (by (try simp only [List.length_append, List.length_cons, List.length_nil]); omega) (by (try simp only [List.length_append, List.length_cons, List.length_nil]); omega)
    have k2 := cat (A := bst (ml ++ t0)) (B := bst t1) (a := (ml ++ t0)) (b := t1) rfl rfl rfl (by (try simp only [List.length_append, List.length_cons, List.length_nil]); omega) (by (try simp only [List.length_append, List.length_cons, List.length_nil]); omega)
    have k3 := cat (A := bst ((ml ++ t0) ++ t1)) (B := bst t2) (a := ((ml ++ t0) ++ t1)) (b := t2) rfl rfl rfl (by (try simp only [List.length_append, List.length_cons, List.length_nil]); omega) (by (try simp only [List.length_append, List.length_cons, List.length_nil]); omega)
    obtain ⟨s1, hs1⟩ : ∃ s, ml ++ t0 = s := ⟨_, rfl⟩
    rw [hs1] at k1 k2 k3 HE
    clear hs1
    obtain ⟨s2, hs2⟩ : ∃ s, s1 ++ t1 = s := ⟨_, rfl⟩
    rw [hs2] at k2 k3 HE
    clear hs2
    rw [HE.out] at k3
    clear hl HE HT HLN
    go_enter Tryz.func35, Tryz.ntmps35
    go_wp2_with (first | (go_at_call 15; refine (HMN.out _).mono ?_; rintro e' y1 ⟨rfl, hy⟩; have HU := Lib.hid (HU.out.trans hy); have HB0 := Lib.hid (HB0.out.up hy); obtain ⟨x0, x1, x2, x3, x4, x5, x6, x7, x8, x9, x10⟩ := HB0.out.all; have hlt := HB0.out.lt; clear hy) | (go_at_call 41; refine (HOP.out _).mono ?_; rintro e' y2 ⟨rfl, hy⟩; have HU := Lib.hid (HU.out.trans hy); have HB0 := Lib.hid (HB0.out.up hy); obtain ⟨x0, x1, x2, x3, x4, x5, x6, x7, x8, x9, x10⟩ := HB0.out.all; have hlt := HB0.out.lt; clear hy))
    refine wp_region_ext (by kernel_rfl) (by kernel_rfl) ?_
    repeat (go_big_quiet_step (first | (go_at_call 58; first | (with_reducible exact Calls.ext_of (HF0.out _)) | (with_reducible exact Calls.ext_of (HF1.out _)) | (with_reducible exact Calls.ext_of (HF2.out _)))))
    refine wpQuiet_nil ?_
    intro z5 hz
    have HU := Lib.hid (HU.out.trans hz)
    have HB0 := Lib.hid (HB0.out.up hz)
    clear x0 x1 x2 x3 x4 x5 x6 x7 x8 x9 x10 hz hlt
    obtain ⟨x0, x1, x2, x3, x4, x5, x6, x7, x8, x9, x10⟩ := HB0.out.all
    have hlt := HB0.out.lt
    go_wp2_with fail
    refine wp_region_ext (by kernel_rfl) (by kernel_rfl) ?_
    repeat (go_big_quiet_step (first | (go_at_call 58; first | (with_reducible exact Calls.ext_of (HF0.out _)) | (with_reducible exact Calls.ext_of (HF1.out _)) | (with_reducible exact Calls.ext_of (HF2.out _)))))
    refine wpQuiet_nil ?_
    intro z14 hz
    have HU := Lib.hid (HU.out.trans hz)
    have HB0 := Lib.hid (HB0.out.up hz)
    clear x0 x1 x2 x3 x4 x5 x6 x7 x8 x9 x10 hz hlt
    obtain ⟨x0, x1, x2, x3, x4, x5, x6, x7, x8, x9, x10⟩ := HB0.out.all
    have hlt := HB0.out.lt
    go_wp2_with (first | (go_at_call 44; refine (r47_typed _ false (by decide) _).mono ?_; rintro e' y5 ⟨rfl, rfl⟩))
    go_ret
    exact ⟨rfl, HU.out⟩
  · have hq : op = 8 := by omega
    clear hop ho
    subst hq
    have HE : Hid (ml ++ t0 ++ t1 ++ t2 = T) := Lib.hid (by rw [← HT.out]; simp [named, valued, typedB])
    have hl : ml.length + t0.length + t1.length + t2.length ≤ 366 := by
      have h1 := congrArg List.length HE.out
      have h2 := HLN.out
      simp only [List.length_append, List.length_cons, List.length_nil] at h1
      omega
    have k1 := cat (A := bst ml) (B := bst t0) (a := ml) (b := t0) rfl rfl rfl (by (try simp only [List.length_append, List.length_cons, List.length_nil]); omega) (by (try simp only [List.length_append, List.length_cons, List.length_nil]); omega)
    have k2 := cat (A := bst (ml ++ t0)) (B := bst t1) (a := (ml ++ t0)) (b := t1) rfl rfl rfl (by (try simp only [List.length_append, List.length_cons, List.length_nil]); omega) (by (try simp only [List.length_append, List.length_cons, List.length_nil]); omega)
    have k3 := cat (A := bst ((ml ++ t0) ++ t1)) (B := bst t2) (a := ((ml ++ t0) ++ t1)) (b := t2) rfl rfl rfl (by (try simp only [List.length_append, List.length_cons, List.length_nil]); omega) (by (try simp only [List.length_append, List.length_cons, List.length_nil]); omega)
    obtain ⟨s1, hs1⟩ : ∃ s, ml ++ t0 = s := ⟨_, rfl⟩
    rw [hs1] at k1 k2 k3 HE
    clear hs1
    obtain ⟨s2, hs2⟩ : ∃ s, s1 ++ t1 = s := ⟨_, rfl⟩
    rw [hs2] at k2 k3 HE
    clear hs2
    rw [HE.out] at k3
    clear hl HE HT HLN
    go_enter Tryz.func35, Tryz.ntmps35
    go_wp2_with (first | (go_at_call 15; refine (HMN.out _).mono ?_; rintro e' y1 ⟨rfl, hy⟩; have HU := Lib.hid (HU.out.trans hy); have HB0 := Lib.hid (HB0.out.up hy); obtain ⟨x0, x1, x2, x3, x4, x5, x6, x7, x8, x9, x10⟩ := HB0.out.all; have hlt := HB0.out.lt; clear hy) | (go_at_call 41; refine (HOP.out _).mono ?_; rintro e' y2 ⟨rfl, hy⟩; have HU := Lib.hid (HU.out.trans hy); have HB0 := Lib.hid (HB0.out.up hy); obtain ⟨x0, x1, x2, x3, x4, x5, x6, x7, x8, x9, x10⟩ := HB0.out.all; have hlt := HB0.out.lt; clear hy))
    refine wp_region_ext (by kernel_rfl) (by kernel_rfl) ?_
    repeat (go_big_quiet_step (first | (go_at_call 58; first | (with_reducible exact Calls.ext_of (HF0.out _)) | (with_reducible exact Calls.ext_of (HF1.out _)) | (with_reducible exact Calls.ext_of (HF2.out _)))))
    refine wpQuiet_nil ?_
    intro z5 hz
    have HU := Lib.hid (HU.out.trans hz)
    have HB0 := Lib.hid (HB0.out.up hz)
    clear x0 x1 x2 x3 x4 x5 x6 x7 x8 x9 x10 hz hlt
    obtain ⟨x0, x1, x2, x3, x4, x5, x6, x7, x8, x9, x10⟩ := HB0.out.all
    have hlt := HB0.out.lt
    go_wp2_with fail
    refine wp_region_ext (by kernel_rfl) (by kernel_rfl) ?_
    repeat (go_big_quiet_step (first | (go_at_call 58; first | (with_reducible exact Calls.ext_of (HF0.out _)) | (with_reducible exact Calls.ext_of (HF1.out _)) | (with_reducible exact Calls.ext_of (HF2.out _)))))
    refine wpQuiet_nil ?_
    intro z14 hz
    have HU := Lib.hid (HU.out.trans hz)
    have HB0 := Lib.hid (HB0.out.up hz)
    clear x0 x1 x2 x3 x4 x5 x6 x7 x8 x9 x10 hz hlt
    obtain ⟨x0, x1, x2, x3, x4, x5, x6, x7, x8, x9, x10⟩ := HB0.out.all
    have hlt := HB0.out.lt
    go_wp2_with (first | (go_at_call 44; refine (r47_typed _ false (by decide) _).mono ?_; rintro e' y5 ⟨rfl, rfl⟩))
    go_ret
    exact ⟨rfl, HU.out⟩
  · have hq : op = 9 := by omega
    clear hop ho
    subst hq
    have HE : Hid (ml ++ t0 ++ t1 ++ [32] ++ tf ++ t2 = T) := Lib.hid (by rw [← HT.out]; simp [named, valued, typedB])
    have hl : ml.length + t0.length + t1.length + 1 + tf.length + t2.length ≤ 366 := by
      have h1 := congrArg List.length HE.out
      have h2 := HLN.out
      simp only [List.length_append, List.length_cons, List.length_nil] at h1
      omega
    have k1 := cat (A := bst ml) (B := bst t0) (a := ml) (b := t0) rfl rfl rfl (by (try simp only [List.length_append, List.length_cons, List.length_nil]); omega) (by (try simp only [List.length_append, List.length_cons, List.length_nil]); omega)
    have k2 := cat (A := bst (ml ++ t0)) (B := bst t1) (a := (ml ++ t0)) (b := t1) rfl rfl rfl (by (try simp only [List.length_append, List.length_cons, List.length_nil]); omega) (by (try simp only [List.length_append, List.length_cons, List.length_nil]); omega)
    have k3 := cat (A := bst ((ml ++ t0) ++ t1)) (B := ⟨#[32]⟩) (a := ((ml ++ t0) ++ t1)) (b := [32]) rfl rfl rfl (by (try simp only [List.length_append, List.length_cons, List.length_nil]); omega) (by (try simp only [List.length_append, List.length_cons, List.length_nil]); omega)
    have k4 := cat (A := bst (((ml ++ t0) ++ t1) ++ [32])) (B := bst tf) (a := (((ml ++ t0) ++ t1) ++ [32])) (b := tf) rfl rfl rfl (by (try simp only [List.length_append, List.length_cons, List.length_nil]); omega) (by (try simp only [List.length_append, List.length_cons, List.length_nil]); omega)
    have k5 := cat (A := bst ((((ml ++ t0) ++ t1) ++ [32]) ++ tf)) (B := bst t2) (a := ((((ml ++ t0) ++ t1) ++ [32]) ++ tf)) (b := t2) rfl rfl rfl (by (try simp only [List.length_append, List.length_cons, List.length_nil]); omega) (by (try simp only [List.length_append, List.length_cons, List.length_nil]); omega)
    obtain ⟨s1, hs1⟩ : ∃ s, ml ++ t0 = s := ⟨_, rfl⟩
    rw [hs1] at k1 k2 k3 k4 k5 HE
    clear hs1
    obtain ⟨s2, hs2⟩ : ∃ s, s1 ++ t1 = s := ⟨_, rfl⟩
    rw [hs2] at k2 k3 k4 k5 HE
    clear hs2
    obtain ⟨s3, hs3⟩ : ∃ s, s2 ++ [32] = s := ⟨_, rfl⟩
    rw [hs3] at k3 k4 k5 HE
    clear hs3
    obtain ⟨s4, hs4⟩ : ∃ s, s3 ++ tf = s := ⟨_, rfl⟩
    rw [hs4] at k4 k5 HE
    clear hs4
    rw [HE.out] at k5
    clear hl HE HT HLN
    go_enter Tryz.func35, Tryz.ntmps35
    go_wp2_with (first | (go_at_call 15; refine (HMN.out _).mono ?_; rintro e' y1 ⟨rfl, hy⟩; have HU := Lib.hid (HU.out.trans hy); have HB0 := Lib.hid (HB0.out.up hy); obtain ⟨x0, x1, x2, x3, x4, x5, x6, x7, x8, x9, x10⟩ := HB0.out.all; have hlt := HB0.out.lt; clear hy) | (go_at_call 41; refine (HOP.out _).mono ?_; rintro e' y2 ⟨rfl, hy⟩; have HU := Lib.hid (HU.out.trans hy); have HB0 := Lib.hid (HB0.out.up hy); obtain ⟨x0, x1, x2, x3, x4, x5, x6, x7, x8, x9, x10⟩ := HB0.out.all; have hlt := HB0.out.lt; clear hy))
    refine wp_region_ext (by kernel_rfl) (by kernel_rfl) ?_
    repeat (go_big_quiet_step (first | (go_at_call 58; first | (with_reducible exact Calls.ext_of (HF0.out _)) | (with_reducible exact Calls.ext_of (HF1.out _)) | (with_reducible exact Calls.ext_of (HF2.out _)))))
    refine wpQuiet_nil ?_
    intro z5 hz
    have HU := Lib.hid (HU.out.trans hz)
    have HB0 := Lib.hid (HB0.out.up hz)
    clear x0 x1 x2 x3 x4 x5 x6 x7 x8 x9 x10 hz hlt
    obtain ⟨x0, x1, x2, x3, x4, x5, x6, x7, x8, x9, x10⟩ := HB0.out.all
    have hlt := HB0.out.lt
    go_wp2_with ((go_at_call 59; refine (HFR.out _).mono ?_; rintro e' y4 ⟨rfl, hy⟩; have HU := Lib.hid (HU.out.trans hy); have HB0 := Lib.hid (HB0.out.up hy); obtain ⟨x0, x1, x2, x3, x4, x5, x6, x7, x8, x9, x10⟩ := HB0.out.all; have hlt := HB0.out.lt; clear hy))
    refine wp_region_ext (by kernel_rfl) (by kernel_rfl) ?_
    repeat (go_big_quiet_step (first | (go_at_call 58; first | (with_reducible exact Calls.ext_of (HF0.out _)) | (with_reducible exact Calls.ext_of (HF1.out _)) | (with_reducible exact Calls.ext_of (HF2.out _)))))
    refine wpQuiet_nil ?_
    intro z14 hz
    have HU := Lib.hid (HU.out.trans hz)
    have HB0 := Lib.hid (HB0.out.up hz)
    clear x0 x1 x2 x3 x4 x5 x6 x7 x8 x9 x10 hz hlt
    obtain ⟨x0, x1, x2, x3, x4, x5, x6, x7, x8, x9, x10⟩ := HB0.out.all
    have hlt := HB0.out.lt
    go_wp2_with (first | (go_at_call 44; refine (r47_typed _ false (by decide) _).mono ?_; rintro e' y5 ⟨rfl, rfl⟩))
    go_ret
    exact ⟨rfl, HU.out⟩
  · have hq : op = 10 := by omega
    clear hop ho
    subst hq
    have HE : Hid (ml ++ t0 ++ t1 ++ [32] ++ td ++ t2 = T) := Lib.hid (by rw [← HT.out]; simp [named, valued, typedB])
    have hl : ml.length + t0.length + t1.length + 1 + td.length + t2.length ≤ 366 := by
      have h1 := congrArg List.length HE.out
      have h2 := HLN.out
      simp only [List.length_append, List.length_cons, List.length_nil] at h1
      omega
    have k1 := cat (A := bst ml) (B := bst t0) (a := ml) (b := t0) rfl rfl rfl (by (try simp only [List.length_append, List.length_cons, List.length_nil]); omega) (by (try simp only [List.length_append, List.length_cons, List.length_nil]); omega)
    have k2 := cat (A := bst (ml ++ t0)) (B := bst t1) (a := (ml ++ t0)) (b := t1) rfl rfl rfl (by (try simp only [List.length_append, List.length_cons, List.length_nil]); omega) (by (try simp only [List.length_append, List.length_cons, List.length_nil]); omega)
    have k3 := cat (A := bst ((ml ++ t0) ++ t1)) (B := ⟨#[32]⟩) (a := ((ml ++ t0) ++ t1)) (b := [32]) rfl rfl rfl (by (try simp only [List.length_append, List.length_cons, List.length_nil]); omega) (by (try simp only [List.length_append, List.length_cons, List.length_nil]); omega)
    have k4 := cat (A := bst (((ml ++ t0) ++ t1) ++ [32])) (B := bst td) (a := (((ml ++ t0) ++ t1) ++ [32])) (b := td) rfl rfl rfl (by (try simp only [List.length_append, List.length_cons, List.length_nil]); omega) (by (try simp only [List.length_append, List.length_cons, List.length_nil]); omega)
    have k5 := cat (A := bst ((((ml ++ t0) ++ t1) ++ [32]) ++ td)) (B := bst t2) (a := ((((ml ++ t0) ++ t1) ++ [32]) ++ td)) (b := t2) rfl rfl rfl (by (try simp only [List.length_append, List.length_cons, List.length_nil]); omega) (by (try simp only [List.length_append, List.length_cons, List.length_nil]); omega)
    obtain ⟨s1, hs1⟩ : ∃ s, ml ++ t0 = s := ⟨_, rfl⟩
    rw [hs1] at k1 k2 k3 k4 k5 HE
    clear hs1
    obtain ⟨s2, hs2⟩ : ∃ s, s1 ++ t1 = s := ⟨_, rfl⟩
    rw [hs2] at k2 k3 k4 k5 HE
    clear hs2
    obtain ⟨s3, hs3⟩ : ∃ s, s2 ++ [32] = s := ⟨_, rfl⟩
    rw [hs3] at k3 k4 k5 HE
    clear hs3
    obtain ⟨s4, hs4⟩ : ∃ s, s3 ++ td = s := ⟨_, rfl⟩
    rw [hs4] at k4 k5 HE
    clear hs4
    rw [HE.out] at k5
    clear hl HE HT HLN
    go_enter Tryz.func35, Tryz.ntmps35
    go_wp2_with (first | (go_at_call 15; refine (HMN.out _).mono ?_; rintro e' y1 ⟨rfl, hy⟩; have HU := Lib.hid (HU.out.trans hy); have HB0 := Lib.hid (HB0.out.up hy); obtain ⟨x0, x1, x2, x3, x4, x5, x6, x7, x8, x9, x10⟩ := HB0.out.all; have hlt := HB0.out.lt; clear hy) | (go_at_call 41; refine (HOP.out _).mono ?_; rintro e' y2 ⟨rfl, hy⟩; have HU := Lib.hid (HU.out.trans hy); have HB0 := Lib.hid (HB0.out.up hy); obtain ⟨x0, x1, x2, x3, x4, x5, x6, x7, x8, x9, x10⟩ := HB0.out.all; have hlt := HB0.out.lt; clear hy))
    refine wp_region_ext (by kernel_rfl) (by kernel_rfl) ?_
    repeat (go_big_quiet_step (first | (go_at_call 58; first | (with_reducible exact Calls.ext_of (HF0.out _)) | (with_reducible exact Calls.ext_of (HF1.out _)) | (with_reducible exact Calls.ext_of (HF2.out _)))))
    refine wpQuiet_nil ?_
    intro z5 hz
    have HU := Lib.hid (HU.out.trans hz)
    have HB0 := Lib.hid (HB0.out.up hz)
    clear x0 x1 x2 x3 x4 x5 x6 x7 x8 x9 x10 hz hlt
    obtain ⟨x0, x1, x2, x3, x4, x5, x6, x7, x8, x9, x10⟩ := HB0.out.all
    have hlt := HB0.out.lt
    go_wp2_with ((go_at_call 60; refine (HDG.out _).mono ?_; rintro e' y4 ⟨rfl, hy⟩; have HU := Lib.hid (HU.out.trans hy); have HB0 := Lib.hid (HB0.out.up hy); obtain ⟨x0, x1, x2, x3, x4, x5, x6, x7, x8, x9, x10⟩ := HB0.out.all; have hlt := HB0.out.lt; clear hy))
    refine wp_region_ext (by kernel_rfl) (by kernel_rfl) ?_
    repeat (go_big_quiet_step (first | (go_at_call 58; first | (with_reducible exact Calls.ext_of (HF0.out _)) | (with_reducible exact Calls.ext_of (HF1.out _)) | (with_reducible exact Calls.ext_of (HF2.out _)))))
    refine wpQuiet_nil ?_
    intro z14 hz
    have HU := Lib.hid (HU.out.trans hz)
    have HB0 := Lib.hid (HB0.out.up hz)
    clear x0 x1 x2 x3 x4 x5 x6 x7 x8 x9 x10 hz hlt
    obtain ⟨x0, x1, x2, x3, x4, x5, x6, x7, x8, x9, x10⟩ := HB0.out.all
    have hlt := HB0.out.lt
    go_wp2_with (first | (go_at_call 44; refine (r47_typed _ false (by decide) _).mono ?_; rintro e' y5 ⟨rfl, rfl⟩))
    go_ret
    exact ⟨rfl, HU.out⟩
  · have hq : op = 11 := by omega
    clear hop ho
    subst hq
    have HE : Hid (ml ++ t0 ++ t1 ++ [32] ++ td ++ t2 = T) := Lib.hid (by rw [← HT.out]; simp [named, valued, typedB])
    have hl : ml.length + t0.length + t1.length + 1 + td.length + t2.length ≤ 366 := by
      have h1 := congrArg List.length HE.out
      have h2 := HLN.out
      simp only [List.length_append, List.length_cons, List.length_nil] at h1
      omega
    have k1 := cat (A := bst ml) (B := bst t0) (a := ml) (b := t0) rfl rfl rfl (by (try simp only [List.length_append, List.length_cons, List.length_nil]); omega) (by (try simp only [List.length_append, List.length_cons, List.length_nil]); omega)
    have k2 := cat (A := bst (ml ++ t0)) (B := bst t1) (a := (ml ++ t0)) (b := t1) rfl rfl rfl (by (try simp only [List.length_append, List.length_cons, List.length_nil]); omega) (by (try simp only [List.length_append, List.length_cons, List.length_nil]); omega)
    have k3 := cat (A := bst ((ml ++ t0) ++ t1)) (B := ⟨#[32]⟩) (a := ((ml ++ t0) ++ t1)) (b := [32]) rfl rfl rfl (by (try simp only [List.length_append, List.length_cons, List.length_nil]); omega) (by (try simp only [List.length_append, List.length_cons, List.length_nil]); omega)
    have k4 := cat (A := bst (((ml ++ t0) ++ t1) ++ [32])) (B := bst td) (a := (((ml ++ t0) ++ t1) ++ [32])) (b := td) rfl rfl rfl (by (try simp only [List.length_append, List.length_cons, List.length_nil]); omega) (by (try simp only [List.length_append, List.length_cons, List.length_nil]); omega)
    have k5 := cat (A := bst ((((ml ++ t0) ++ t1) ++ [32]) ++ td)) (B := bst t2) (a := ((((ml ++ t0) ++ t1) ++ [32]) ++ td)) (b := t2) rfl rfl rfl (by (try simp only [List.length_append, List.length_cons, List.length_nil]); omega) (by (try simp only [List.length_append, List.length_cons, List.length_nil]); omega)
    obtain ⟨s1, hs1⟩ : ∃ s, ml ++ t0 = s := ⟨_, rfl⟩
    rw [hs1] at k1 k2 k3 k4 k5 HE
    clear hs1
    obtain ⟨s2, hs2⟩ : ∃ s, s1 ++ t1 = s := ⟨_, rfl⟩
    rw [hs2] at k2 k3 k4 k5 HE
    clear hs2
    obtain ⟨s3, hs3⟩ : ∃ s, s2 ++ [32] = s := ⟨_, rfl⟩
    rw [hs3] at k3 k4 k5 HE
    clear hs3
    obtain ⟨s4, hs4⟩ : ∃ s, s3 ++ td = s := ⟨_, rfl⟩
    rw [hs4] at k4 k5 HE
    clear hs4
    rw [HE.out] at k5
    clear hl HE HT HLN
    go_enter Tryz.func35, Tryz.ntmps35
    go_wp2_with (first | (go_at_call 15; refine (HMN.out _).mono ?_; rintro e' y1 ⟨rfl, hy⟩; have HU := Lib.hid (HU.out.trans hy); have HB0 := Lib.hid (HB0.out.up hy); obtain ⟨x0, x1, x2, x3, x4, x5, x6, x7, x8, x9, x10⟩ := HB0.out.all; have hlt := HB0.out.lt; clear hy) | (go_at_call 41; refine (HOP.out _).mono ?_; rintro e' y2 ⟨rfl, hy⟩; have HU := Lib.hid (HU.out.trans hy); have HB0 := Lib.hid (HB0.out.up hy); obtain ⟨x0, x1, x2, x3, x4, x5, x6, x7, x8, x9, x10⟩ := HB0.out.all; have hlt := HB0.out.lt; clear hy))
    refine wp_region_ext (by kernel_rfl) (by kernel_rfl) ?_
    repeat (go_big_quiet_step (first | (go_at_call 58; first | (with_reducible exact Calls.ext_of (HF0.out _)) | (with_reducible exact Calls.ext_of (HF1.out _)) | (with_reducible exact Calls.ext_of (HF2.out _)))))
    refine wpQuiet_nil ?_
    intro z5 hz
    have HU := Lib.hid (HU.out.trans hz)
    have HB0 := Lib.hid (HB0.out.up hz)
    clear x0 x1 x2 x3 x4 x5 x6 x7 x8 x9 x10 hz hlt
    obtain ⟨x0, x1, x2, x3, x4, x5, x6, x7, x8, x9, x10⟩ := HB0.out.all
    have hlt := HB0.out.lt
    go_wp2_with ((go_at_call 60; refine (HDG.out _).mono ?_; rintro e' y4 ⟨rfl, hy⟩; have HU := Lib.hid (HU.out.trans hy); have HB0 := Lib.hid (HB0.out.up hy); obtain ⟨x0, x1, x2, x3, x4, x5, x6, x7, x8, x9, x10⟩ := HB0.out.all; have hlt := HB0.out.lt; clear hy))
    refine wp_region_ext (by kernel_rfl) (by kernel_rfl) ?_
    repeat (go_big_quiet_step (first | (go_at_call 58; first | (with_reducible exact Calls.ext_of (HF0.out _)) | (with_reducible exact Calls.ext_of (HF1.out _)) | (with_reducible exact Calls.ext_of (HF2.out _)))))
    refine wpQuiet_nil ?_
    intro z14 hz
    have HU := Lib.hid (HU.out.trans hz)
    have HB0 := Lib.hid (HB0.out.up hz)
    clear x0 x1 x2 x3 x4 x5 x6 x7 x8 x9 x10 hz hlt
    obtain ⟨x0, x1, x2, x3, x4, x5, x6, x7, x8, x9, x10⟩ := HB0.out.all
    have hlt := HB0.out.lt
    go_wp2_with (first | (go_at_call 44; refine (r47_typed _ false (by decide) _).mono ?_; rintro e' y5 ⟨rfl, rfl⟩))
    go_ret
    exact ⟨rfl, HU.out⟩
  · by_cases hn8 : n = 8
    · have hq : op = 12 := by omega
      clear hop ho
      subst hq hn8
      have HE : Hid (ml ++ [32] ++ tn ++ t0 ++ t1 ++ [32] ++ tt = T) := Lib.hid (by rw [← HT.out]; simp [named, valued, typedB])
      have hl : ml.length + 1 + tn.length + t0.length + t1.length + 1 + tt.length ≤ 366 := by
        have h1 := congrArg List.length HE.out
        have h2 := HLN.out
        simp only [List.length_append, List.length_cons, List.length_nil] at h1
        omega
      have k1 := cat (A := bst ml) (B := ⟨#[32]⟩) (a := ml) (b := [32]) rfl rfl rfl (by (try simp only [List.length_append, List.length_cons, List.length_nil]); omega) (by (try simp only [List.length_append, List.length_cons, List.length_nil]); omega)
      have k2 := cat (A := bst (ml ++ [32])) (B := bst tn) (a := (ml ++ [32])) (b := tn) rfl rfl rfl (by (try simp only [List.length_append, List.length_cons, List.length_nil]); omega) (by (try simp only [List.length_append, List.length_cons, List.length_nil]); omega)
      have k3 := cat (A := bst ((ml ++ [32]) ++ tn)) (B := bst t0) (a := ((ml ++ [32]) ++ tn)) (b := t0) rfl rfl rfl (by (try simp only [List.length_append, List.length_cons, List.length_nil]); omega) (by (try simp only [List.length_append, List.length_cons, List.length_nil]); omega)
      have k4 := cat (A := bst (((ml ++ [32]) ++ tn) ++ t0)) (B := bst t1) (a := (((ml ++ [32]) ++ tn) ++ t0)) (b := t1) rfl rfl rfl (by (try simp only [List.length_append, List.length_cons, List.length_nil]); omega) (by (try simp only [List.length_append, List.length_cons, List.length_nil]); omega)
      have k5 := cat (A := bst ((((ml ++ [32]) ++ tn) ++ t0) ++ t1)) (B := ⟨#[32]⟩) (a := ((((ml ++ [32]) ++ tn) ++ t0) ++ t1)) (b := [32]) rfl rfl rfl (by (try simp only [List.length_append, List.length_cons, List.length_nil]); omega) (by (try simp only [List.length_append, List.length_cons, List.length_nil]); omega)
      have k6 := cat (A := bst (((((ml ++ [32]) ++ tn) ++ t0) ++ t1) ++ [32])) (B := bst tt) (a := (((((ml ++ [32]) ++ tn) ++ t0) ++ t1) ++ [32])) (b := tt) rfl rfl rfl (by (try simp only [List.length_append, List.length_cons, List.length_nil]); omega) (by (try simp only [List.length_append, List.length_cons, List.length_nil]); omega)
      obtain ⟨s1, hs1⟩ : ∃ s, ml ++ [32] = s := ⟨_, rfl⟩
      rw [hs1] at k1 k2 k3 k4 k5 k6 HE
      clear hs1
      obtain ⟨s2, hs2⟩ : ∃ s, s1 ++ tn = s := ⟨_, rfl⟩
      rw [hs2] at k2 k3 k4 k5 k6 HE
      clear hs2
      obtain ⟨s3, hs3⟩ : ∃ s, s2 ++ t0 = s := ⟨_, rfl⟩
      rw [hs3] at k3 k4 k5 k6 HE
      clear hs3
      obtain ⟨s4, hs4⟩ : ∃ s, s3 ++ t1 = s := ⟨_, rfl⟩
      rw [hs4] at k4 k5 k6 HE
      clear hs4
      obtain ⟨s5, hs5⟩ : ∃ s, s4 ++ [32] = s := ⟨_, rfl⟩
      rw [hs5] at k5 k6 HE
      clear hs5
      rw [HE.out] at k6
      clear hl HE HT HLN
      go_enter Tryz.func35, Tryz.ntmps35
      go_wp2_with (first | (go_at_call 15; refine (HMN.out _).mono ?_; rintro e' y1 ⟨rfl, hy⟩; have HU := Lib.hid (HU.out.trans hy); have HB0 := Lib.hid (HB0.out.up hy); obtain ⟨x0, x1, x2, x3, x4, x5, x6, x7, x8, x9, x10⟩ := HB0.out.all; have hlt := HB0.out.lt; clear hy) | (go_at_call 41; refine (HOP.out _).mono ?_; rintro e' y2 ⟨rfl, hy⟩; have HU := Lib.hid (HU.out.trans hy); have HB0 := Lib.hid (HB0.out.up hy); obtain ⟨x0, x1, x2, x3, x4, x5, x6, x7, x8, x9, x10⟩ := HB0.out.all; have hlt := HB0.out.lt; clear hy) | (go_at_call 57; refine (HON.out (by decide) _).mono ?_; rintro e' y3 ⟨rfl, hy⟩; have HU := Lib.hid (HU.out.trans hy); have HB0 := Lib.hid (HB0.out.up hy); obtain ⟨x0, x1, x2, x3, x4, x5, x6, x7, x8, x9, x10⟩ := HB0.out.all; have hlt := HB0.out.lt; clear hy))
      refine wp_region_ext (by kernel_rfl) (by kernel_rfl) ?_
      repeat (go_big_quiet_step (first | (go_at_call 58; first | (with_reducible exact Calls.ext_of (HF0.out _)) | (with_reducible exact Calls.ext_of (HF1.out _)) | (with_reducible exact Calls.ext_of (HF2.out _)))))
      refine wpQuiet_nil ?_
      intro z5 hz
      have HU := Lib.hid (HU.out.trans hz)
      have HB0 := Lib.hid (HB0.out.up hz)
      clear x0 x1 x2 x3 x4 x5 x6 x7 x8 x9 x10 hz hlt
      obtain ⟨x0, x1, x2, x3, x4, x5, x6, x7, x8, x9, x10⟩ := HB0.out.all
      have hlt := HB0.out.lt
      go_wp2_with (first | (go_at_call 44; refine (r47_typed _ true (by decide) _).mono ?_; rintro e' y5 ⟨rfl, rfl⟩) | (go_at_call 61; refine (HKD.out (by decide) _).mono ?_; rintro e' y6 ⟨rfl, hy⟩; have HU := Lib.hid (HU.out.trans hy); have HB0 := Lib.hid (HB0.out.up hy); obtain ⟨x0, x1, x2, x3, x4, x5, x6, x7, x8, x9, x10⟩ := HB0.out.all; have hlt := HB0.out.lt; clear hy))
      go_ret
      exact ⟨rfl, HU.out⟩
    · have hq : op = 12 := by omega
      clear hop ho
      subst hq
      have hn8b : (n == 8) = false := by simpa using hn8
      have hn8c : (n != 8) = true := by simpa using hn8
      have HE : Hid (ml ++ [32] ++ tn ++ t0 ++ t1 ++ t2 ++ [32] ++ tt = T) := Lib.hid (by rw [← HT.out]; simp [named, valued, typedB, hn8])
      have hl : ml.length + 1 + tn.length + t0.length + t1.length + t2.length + 1 + tt.length ≤ 366 := by
        have h1 := congrArg List.length HE.out
        have h2 := HLN.out
        simp only [List.length_append, List.length_cons, List.length_nil] at h1
        omega
      have k1 := cat (A := bst ml) (B := ⟨#[32]⟩) (a := ml) (b := [32]) rfl rfl rfl (by (try simp only [List.length_append, List.length_cons, List.length_nil]); omega) (by (try simp only [List.length_append, List.length_cons, List.length_nil]); omega)
      have k2 := cat (A := bst (ml ++ [32])) (B := bst tn) (a := (ml ++ [32])) (b := tn) rfl rfl rfl (by (try simp only [List.length_append, List.length_cons, List.length_nil]); omega) (by (try simp only [List.length_append, List.length_cons, List.length_nil]); omega)
      have k3 := cat (A := bst ((ml ++ [32]) ++ tn)) (B := bst t0) (a := ((ml ++ [32]) ++ tn)) (b := t0) rfl rfl rfl (by (try simp only [List.length_append, List.length_cons, List.length_nil]); omega) (by (try simp only [List.length_append, List.length_cons, List.length_nil]); omega)
      have k4 := cat (A := bst (((ml ++ [32]) ++ tn) ++ t0)) (B := bst t1) (a := (((ml ++ [32]) ++ tn) ++ t0)) (b := t1) rfl rfl rfl (by (try simp only [List.length_append, List.length_cons, List.length_nil]); omega) (by (try simp only [List.length_append, List.length_cons, List.length_nil]); omega)
      have k5 := cat (A := bst ((((ml ++ [32]) ++ tn) ++ t0) ++ t1)) (B := bst t2) (a := ((((ml ++ [32]) ++ tn) ++ t0) ++ t1)) (b := t2) rfl rfl rfl (by (try simp only [List.length_append, List.length_cons, List.length_nil]); omega) (by (try simp only [List.length_append, List.length_cons, List.length_nil]); omega)
      have k6 := cat (A := bst (((((ml ++ [32]) ++ tn) ++ t0) ++ t1) ++ t2)) (B := ⟨#[32]⟩) (a := (((((ml ++ [32]) ++ tn) ++ t0) ++ t1) ++ t2)) (b := [32]) rfl rfl rfl (by (try simp only [List.length_append, List.length_cons, List.length_nil]); omega) (by (try simp only [List.length_append, List.length_cons, List.length_nil]); omega)
      have k7 := cat (A := bst ((((((ml ++ [32]) ++ tn) ++ t0) ++ t1) ++ t2) ++ [32])) (B := bst tt) (a := ((((((ml ++ [32]) ++ tn) ++ t0) ++ t1) ++ t2) ++ [32])) (b := tt) rfl rfl rfl (by (try simp only [List.length_append, List.length_cons, List.length_nil]); omega) (by (try simp only [List.length_append, List.length_cons, List.length_nil]); omega)
      obtain ⟨s1, hs1⟩ : ∃ s, ml ++ [32] = s := ⟨_, rfl⟩
      rw [hs1] at k1 k2 k3 k4 k5 k6 k7 HE
      clear hs1
      obtain ⟨s2, hs2⟩ : ∃ s, s1 ++ tn = s := ⟨_, rfl⟩
      rw [hs2] at k2 k3 k4 k5 k6 k7 HE
      clear hs2
      obtain ⟨s3, hs3⟩ : ∃ s, s2 ++ t0 = s := ⟨_, rfl⟩
      rw [hs3] at k3 k4 k5 k6 k7 HE
      clear hs3
      obtain ⟨s4, hs4⟩ : ∃ s, s3 ++ t1 = s := ⟨_, rfl⟩
      rw [hs4] at k4 k5 k6 k7 HE
      clear hs4
      obtain ⟨s5, hs5⟩ : ∃ s, s4 ++ t2 = s := ⟨_, rfl⟩
      rw [hs5] at k5 k6 k7 HE
      clear hs5
      obtain ⟨s6, hs6⟩ : ∃ s, s5 ++ [32] = s := ⟨_, rfl⟩
      rw [hs6] at k6 k7 HE
      clear hs6
      rw [HE.out] at k7
      clear hl HE HT HLN hn8
      go_enter Tryz.func35, Tryz.ntmps35
      go_wp2_with (first | (go_at_call 15; refine (HMN.out _).mono ?_; rintro e' y1 ⟨rfl, hy⟩; have HU := Lib.hid (HU.out.trans hy); have HB0 := Lib.hid (HB0.out.up hy); obtain ⟨x0, x1, x2, x3, x4, x5, x6, x7, x8, x9, x10⟩ := HB0.out.all; have hlt := HB0.out.lt; clear hy) | (go_at_call 41; refine (HOP.out _).mono ?_; rintro e' y2 ⟨rfl, hy⟩; have HU := Lib.hid (HU.out.trans hy); have HB0 := Lib.hid (HB0.out.up hy); obtain ⟨x0, x1, x2, x3, x4, x5, x6, x7, x8, x9, x10⟩ := HB0.out.all; have hlt := HB0.out.lt; clear hy) | (go_at_call 57; refine (HON.out (by decide) _).mono ?_; rintro e' y3 ⟨rfl, hy⟩; have HU := Lib.hid (HU.out.trans hy); have HB0 := Lib.hid (HB0.out.up hy); obtain ⟨x0, x1, x2, x3, x4, x5, x6, x7, x8, x9, x10⟩ := HB0.out.all; have hlt := HB0.out.lt; clear hy))
      refine wp_region_ext (by kernel_rfl) (by kernel_rfl) ?_
      repeat (go_big_quiet_step (first | (go_at_call 58; first | (with_reducible exact Calls.ext_of (HF0.out _)) | (with_reducible exact Calls.ext_of (HF1.out _)) | (with_reducible exact Calls.ext_of (HF2.out _)))))
      refine wpQuiet_nil ?_
      intro z5 hz
      have HU := Lib.hid (HU.out.trans hz)
      have HB0 := Lib.hid (HB0.out.up hz)
      clear x0 x1 x2 x3 x4 x5 x6 x7 x8 x9 x10 hz hlt
      obtain ⟨x0, x1, x2, x3, x4, x5, x6, x7, x8, x9, x10⟩ := HB0.out.all
      have hlt := HB0.out.lt
      go_wp2_with fail
      refine wp_region_ext (by kernel_rfl) (by kernel_rfl) ?_
      repeat (go_big_quiet_step (first | (go_at_call 58; first | (with_reducible exact Calls.ext_of (HF0.out _)) | (with_reducible exact Calls.ext_of (HF1.out _)) | (with_reducible exact Calls.ext_of (HF2.out _)))))
      refine wpQuiet_nil ?_
      intro z14 hz
      have HU := Lib.hid (HU.out.trans hz)
      have HB0 := Lib.hid (HB0.out.up hz)
      clear x0 x1 x2 x3 x4 x5 x6 x7 x8 x9 x10 hz hlt
      obtain ⟨x0, x1, x2, x3, x4, x5, x6, x7, x8, x9, x10⟩ := HB0.out.all
      have hlt := HB0.out.lt
      go_wp2_with (first | (go_at_call 44; refine (r47_typed _ true (by decide) _).mono ?_; rintro e' y5 ⟨rfl, rfl⟩) | (go_at_call 61; refine (HKD.out (by decide) _).mono ?_; rintro e' y6 ⟨rfl, hy⟩; have HU := Lib.hid (HU.out.trans hy); have HB0 := Lib.hid (HB0.out.up hy); obtain ⟨x0, x1, x2, x3, x4, x5, x6, x7, x8, x9, x10⟩ := HB0.out.all; have hlt := HB0.out.lt; clear hy))
      go_ret
      exact ⟨rfl, HU.out⟩
  · have hq : op = 13 := by omega
    clear hop ho
    subst hq
    have HE : Hid (ml ++ t0 ++ t1 ++ [32] ++ td ++ t2 ++ [32] ++ tt = T) := Lib.hid (by rw [← HT.out]; simp [named, valued, typedB])
    have hl : ml.length + t0.length + t1.length + 1 + td.length + t2.length + 1 + tt.length ≤ 366 := by
      have h1 := congrArg List.length HE.out
      have h2 := HLN.out
      simp only [List.length_append, List.length_cons, List.length_nil] at h1
      omega
    have k1 := cat (A := bst ml) (B := bst t0) (a := ml) (b := t0) rfl rfl rfl (by (try simp only [List.length_append, List.length_cons, List.length_nil]); omega) (by (try simp only [List.length_append, List.length_cons, List.length_nil]); omega)
    have k2 := cat (A := bst (ml ++ t0)) (B := bst t1) (a := (ml ++ t0)) (b := t1) rfl rfl rfl (by (try simp only [List.length_append, List.length_cons, List.length_nil]); omega) (by (try simp only [List.length_append, List.length_cons, List.length_nil]); omega)
    have k3 := cat (A := bst ((ml ++ t0) ++ t1)) (B := ⟨#[32]⟩) (a := ((ml ++ t0) ++ t1)) (b := [32]) rfl rfl rfl (by (try simp only [List.length_append, List.length_cons, List.length_nil]); omega) (by (try simp only [List.length_append, List.length_cons, List.length_nil]); omega)
    have k4 := cat (A := bst (((ml ++ t0) ++ t1) ++ [32])) (B := bst td) (a := (((ml ++ t0) ++ t1) ++ [32])) (b := td) rfl rfl rfl (by (try simp only [List.length_append, List.length_cons, List.length_nil]); omega) (by (try simp only [List.length_append, List.length_cons, List.length_nil]); omega)
    have k5 := cat (A := bst ((((ml ++ t0) ++ t1) ++ [32]) ++ td)) (B := bst t2) (a := ((((ml ++ t0) ++ t1) ++ [32]) ++ td)) (b := t2) rfl rfl rfl (by (try simp only [List.length_append, List.length_cons, List.length_nil]); omega) (by (try simp only [List.length_append, List.length_cons, List.length_nil]); omega)
    have k6 := cat (A := bst (((((ml ++ t0) ++ t1) ++ [32]) ++ td) ++ t2)) (B := ⟨#[32]⟩) (a := (((((ml ++ t0) ++ t1) ++ [32]) ++ td) ++ t2)) (b := [32]) rfl rfl rfl (by (try simp only [List.length_append, List.length_cons, List.length_nil]); omega) (by (try simp only [List.length_append, List.length_cons, List.length_nil]); omega)
    have k7 := cat (A := bst ((((((ml ++ t0) ++ t1) ++ [32]) ++ td) ++ t2) ++ [32])) (B := bst tt) (a := ((((((ml ++ t0) ++ t1) ++ [32]) ++ td) ++ t2) ++ [32])) (b := tt) rfl rfl rfl (by (try simp only [List.length_append, List.length_cons, List.length_nil]); omega) (by (try simp only [List.length_append, List.length_cons, List.length_nil]); omega)
    obtain ⟨s1, hs1⟩ : ∃ s, ml ++ t0 = s := ⟨_, rfl⟩
    rw [hs1] at k1 k2 k3 k4 k5 k6 k7 HE
    clear hs1
    obtain ⟨s2, hs2⟩ : ∃ s, s1 ++ t1 = s := ⟨_, rfl⟩
    rw [hs2] at k2 k3 k4 k5 k6 k7 HE
    clear hs2
    obtain ⟨s3, hs3⟩ : ∃ s, s2 ++ [32] = s := ⟨_, rfl⟩
    rw [hs3] at k3 k4 k5 k6 k7 HE
    clear hs3
    obtain ⟨s4, hs4⟩ : ∃ s, s3 ++ td = s := ⟨_, rfl⟩
    rw [hs4] at k4 k5 k6 k7 HE
    clear hs4
    obtain ⟨s5, hs5⟩ : ∃ s, s4 ++ t2 = s := ⟨_, rfl⟩
    rw [hs5] at k5 k6 k7 HE
    clear hs5
    obtain ⟨s6, hs6⟩ : ∃ s, s5 ++ [32] = s := ⟨_, rfl⟩
    rw [hs6] at k6 k7 HE
    clear hs6
    rw [HE.out] at k7
    clear hl HE HT HLN
    go_enter Tryz.func35, Tryz.ntmps35
    go_wp2_with (first | (go_at_call 15; refine (HMN.out _).mono ?_; rintro e' y1 ⟨rfl, hy⟩; have HU := Lib.hid (HU.out.trans hy); have HB0 := Lib.hid (HB0.out.up hy); obtain ⟨x0, x1, x2, x3, x4, x5, x6, x7, x8, x9, x10⟩ := HB0.out.all; have hlt := HB0.out.lt; clear hy) | (go_at_call 41; refine (HOP.out _).mono ?_; rintro e' y2 ⟨rfl, hy⟩; have HU := Lib.hid (HU.out.trans hy); have HB0 := Lib.hid (HB0.out.up hy); obtain ⟨x0, x1, x2, x3, x4, x5, x6, x7, x8, x9, x10⟩ := HB0.out.all; have hlt := HB0.out.lt; clear hy))
    refine wp_region_ext (by kernel_rfl) (by kernel_rfl) ?_
    repeat (go_big_quiet_step (first | (go_at_call 58; first | (with_reducible exact Calls.ext_of (HF0.out _)) | (with_reducible exact Calls.ext_of (HF1.out _)) | (with_reducible exact Calls.ext_of (HF2.out _)))))
    refine wpQuiet_nil ?_
    intro z5 hz
    have HU := Lib.hid (HU.out.trans hz)
    have HB0 := Lib.hid (HB0.out.up hz)
    clear x0 x1 x2 x3 x4 x5 x6 x7 x8 x9 x10 hz hlt
    obtain ⟨x0, x1, x2, x3, x4, x5, x6, x7, x8, x9, x10⟩ := HB0.out.all
    have hlt := HB0.out.lt
    go_wp2_with ((go_at_call 60; refine (HDG.out _).mono ?_; rintro e' y4 ⟨rfl, hy⟩; have HU := Lib.hid (HU.out.trans hy); have HB0 := Lib.hid (HB0.out.up hy); obtain ⟨x0, x1, x2, x3, x4, x5, x6, x7, x8, x9, x10⟩ := HB0.out.all; have hlt := HB0.out.lt; clear hy))
    refine wp_region_ext (by kernel_rfl) (by kernel_rfl) ?_
    repeat (go_big_quiet_step (first | (go_at_call 58; first | (with_reducible exact Calls.ext_of (HF0.out _)) | (with_reducible exact Calls.ext_of (HF1.out _)) | (with_reducible exact Calls.ext_of (HF2.out _)))))
    refine wpQuiet_nil ?_
    intro z14 hz
    have HU := Lib.hid (HU.out.trans hz)
    have HB0 := Lib.hid (HB0.out.up hz)
    clear x0 x1 x2 x3 x4 x5 x6 x7 x8 x9 x10 hz hlt
    obtain ⟨x0, x1, x2, x3, x4, x5, x6, x7, x8, x9, x10⟩ := HB0.out.all
    have hlt := HB0.out.lt
    go_wp2_with (first | (go_at_call 44; refine (r47_typed _ true (by decide) _).mono ?_; rintro e' y5 ⟨rfl, rfl⟩) | (go_at_call 61; refine (HKD.out (by decide) _).mono ?_; rintro e' y6 ⟨rfl, hy⟩; have HU := Lib.hid (HU.out.trans hy); have HB0 := Lib.hid (HB0.out.up hy); obtain ⟨x0, x1, x2, x3, x4, x5, x6, x7, x8, x9, x10⟩ := HB0.out.all; have hlt := HB0.out.lt; clear hy))
    go_ret
    exact ⟨rfl, HU.out⟩
  · have hq : op = 14 := by omega
    clear hop ho
    subst hq
    have HE : Hid (ml ++ [32] ++ tn ++ t0 ++ t1 ++ t2 ++ [32] ++ tt = T) := Lib.hid (by rw [← HT.out]; simp [named, valued, typedB])
    have hl : ml.length + 1 + tn.length + t0.length + t1.length + t2.length + 1 + tt.length ≤ 366 := by
      have h1 := congrArg List.length HE.out
      have h2 := HLN.out
      simp only [List.length_append, List.length_cons, List.length_nil] at h1
      omega
    have k1 := cat (A := bst ml) (B := ⟨#[32]⟩) (a := ml) (b := [32]) rfl rfl rfl (by (try simp only [List.length_append, List.length_cons, List.length_nil]); omega) (by (try simp only [List.length_append, List.length_cons, List.length_nil]); omega)
    have k2 := cat (A := bst (ml ++ [32])) (B := bst tn) (a := (ml ++ [32])) (b := tn) rfl rfl rfl (by (try simp only [List.length_append, List.length_cons, List.length_nil]); omega) (by (try simp only [List.length_append, List.length_cons, List.length_nil]); omega)
    have k3 := cat (A := bst ((ml ++ [32]) ++ tn)) (B := bst t0) (a := ((ml ++ [32]) ++ tn)) (b := t0) rfl rfl rfl (by (try simp only [List.length_append, List.length_cons, List.length_nil]); omega) (by (try simp only [List.length_append, List.length_cons, List.length_nil]); omega)
    have k4 := cat (A := bst (((ml ++ [32]) ++ tn) ++ t0)) (B := bst t1) (a := (((ml ++ [32]) ++ tn) ++ t0)) (b := t1) rfl rfl rfl (by (try simp only [List.length_append, List.length_cons, List.length_nil]); omega) (by (try simp only [List.length_append, List.length_cons, List.length_nil]); omega)
    have k5 := cat (A := bst ((((ml ++ [32]) ++ tn) ++ t0) ++ t1)) (B := bst t2) (a := ((((ml ++ [32]) ++ tn) ++ t0) ++ t1)) (b := t2) rfl rfl rfl (by (try simp only [List.length_append, List.length_cons, List.length_nil]); omega) (by (try simp only [List.length_append, List.length_cons, List.length_nil]); omega)
    have k6 := cat (A := bst (((((ml ++ [32]) ++ tn) ++ t0) ++ t1) ++ t2)) (B := ⟨#[32]⟩) (a := (((((ml ++ [32]) ++ tn) ++ t0) ++ t1) ++ t2)) (b := [32]) rfl rfl rfl (by (try simp only [List.length_append, List.length_cons, List.length_nil]); omega) (by (try simp only [List.length_append, List.length_cons, List.length_nil]); omega)
    have k7 := cat (A := bst ((((((ml ++ [32]) ++ tn) ++ t0) ++ t1) ++ t2) ++ [32])) (B := bst tt) (a := ((((((ml ++ [32]) ++ tn) ++ t0) ++ t1) ++ t2) ++ [32])) (b := tt) rfl rfl rfl (by (try simp only [List.length_append, List.length_cons, List.length_nil]); omega) (by (try simp only [List.length_append, List.length_cons, List.length_nil]); omega)
    obtain ⟨s1, hs1⟩ : ∃ s, ml ++ [32] = s := ⟨_, rfl⟩
    rw [hs1] at k1 k2 k3 k4 k5 k6 k7 HE
    clear hs1
    obtain ⟨s2, hs2⟩ : ∃ s, s1 ++ tn = s := ⟨_, rfl⟩
    rw [hs2] at k2 k3 k4 k5 k6 k7 HE
    clear hs2
    obtain ⟨s3, hs3⟩ : ∃ s, s2 ++ t0 = s := ⟨_, rfl⟩
    rw [hs3] at k3 k4 k5 k6 k7 HE
    clear hs3
    obtain ⟨s4, hs4⟩ : ∃ s, s3 ++ t1 = s := ⟨_, rfl⟩
    rw [hs4] at k4 k5 k6 k7 HE
    clear hs4
    obtain ⟨s5, hs5⟩ : ∃ s, s4 ++ t2 = s := ⟨_, rfl⟩
    rw [hs5] at k5 k6 k7 HE
    clear hs5
    obtain ⟨s6, hs6⟩ : ∃ s, s5 ++ [32] = s := ⟨_, rfl⟩
    rw [hs6] at k6 k7 HE
    clear hs6
    rw [HE.out] at k7
    clear hl HE HT HLN
    go_enter Tryz.func35, Tryz.ntmps35
    go_wp2_with (first | (go_at_call 15; refine (HMN.out _).mono ?_; rintro e' y1 ⟨rfl, hy⟩; have HU := Lib.hid (HU.out.trans hy); have HB0 := Lib.hid (HB0.out.up hy); obtain ⟨x0, x1, x2, x3, x4, x5, x6, x7, x8, x9, x10⟩ := HB0.out.all; have hlt := HB0.out.lt; clear hy) | (go_at_call 41; refine (HOP.out _).mono ?_; rintro e' y2 ⟨rfl, hy⟩; have HU := Lib.hid (HU.out.trans hy); have HB0 := Lib.hid (HB0.out.up hy); obtain ⟨x0, x1, x2, x3, x4, x5, x6, x7, x8, x9, x10⟩ := HB0.out.all; have hlt := HB0.out.lt; clear hy) | (go_at_call 57; refine (HON.out (by decide) _).mono ?_; rintro e' y3 ⟨rfl, hy⟩; have HU := Lib.hid (HU.out.trans hy); have HB0 := Lib.hid (HB0.out.up hy); obtain ⟨x0, x1, x2, x3, x4, x5, x6, x7, x8, x9, x10⟩ := HB0.out.all; have hlt := HB0.out.lt; clear hy))
    refine wp_region_ext (by kernel_rfl) (by kernel_rfl) ?_
    repeat (go_big_quiet_step (first | (go_at_call 58; first | (with_reducible exact Calls.ext_of (HF0.out _)) | (with_reducible exact Calls.ext_of (HF1.out _)) | (with_reducible exact Calls.ext_of (HF2.out _)))))
    refine wpQuiet_nil ?_
    intro z5 hz
    have HU := Lib.hid (HU.out.trans hz)
    have HB0 := Lib.hid (HB0.out.up hz)
    clear x0 x1 x2 x3 x4 x5 x6 x7 x8 x9 x10 hz hlt
    obtain ⟨x0, x1, x2, x3, x4, x5, x6, x7, x8, x9, x10⟩ := HB0.out.all
    have hlt := HB0.out.lt
    go_wp2_with fail
    refine wp_region_ext (by kernel_rfl) (by kernel_rfl) ?_
    repeat (go_big_quiet_step (first | (go_at_call 58; first | (with_reducible exact Calls.ext_of (HF0.out _)) | (with_reducible exact Calls.ext_of (HF1.out _)) | (with_reducible exact Calls.ext_of (HF2.out _)))))
    refine wpQuiet_nil ?_
    intro z14 hz
    have HU := Lib.hid (HU.out.trans hz)
    have HB0 := Lib.hid (HB0.out.up hz)
    clear x0 x1 x2 x3 x4 x5 x6 x7 x8 x9 x10 hz hlt
    obtain ⟨x0, x1, x2, x3, x4, x5, x6, x7, x8, x9, x10⟩ := HB0.out.all
    have hlt := HB0.out.lt
    go_wp2_with (first | (go_at_call 44; refine (r47_typed _ true (by decide) _).mono ?_; rintro e' y5 ⟨rfl, rfl⟩) | (go_at_call 61; refine (HKD.out (by decide) _).mono ?_; rintro e' y6 ⟨rfl, hy⟩; have HU := Lib.hid (HU.out.trans hy); have HB0 := Lib.hid (HB0.out.up hy); obtain ⟨x0, x1, x2, x3, x4, x5, x6, x7, x8, x9, x10⟩ := HB0.out.all; have hlt := HB0.out.lt; clear hy))
    go_ret
    exact ⟨rfl, HU.out⟩
  · have hq : op = 15 := by omega
    clear hop ho
    subst hq
    have HE : Hid (ml ++ t0 ++ t1 ++ t2 = T) := Lib.hid (by rw [← HT.out]; simp [named, valued, typedB])
    have hl : ml.length + t0.length + t1.length + t2.length ≤ 366 := by
      have h1 := congrArg List.length HE.out
      have h2 := HLN.out
      simp only [List.length_append, List.length_cons, List.length_nil] at h1
      omega
    have k1 := cat (A := bst ml) (B := bst t0) (a := ml) (b := t0) rfl rfl rfl (by (try simp only [List.length_append, List.length_cons, List.length_nil]); omega) (by (try simp only [List.length_append, List.length_cons, List.length_nil]); omega)
    have k2 := cat (A := bst (ml ++ t0)) (B := bst t1) (a := (ml ++ t0)) (b := t1) rfl rfl rfl (by (try simp only [List.length_append, List.length_cons, List.length_nil]); omega) (by (try simp only [List.length_append, List.length_cons, List.length_nil]); omega)
    have k3 := cat (A := bst ((ml ++ t0) ++ t1)) (B := bst t2) (a := ((ml ++ t0) ++ t1)) (b := t2) rfl rfl rfl (by (try simp only [List.length_append, List.length_cons, List.length_nil]); omega) (by (try simp only [List.length_append, List.length_cons, List.length_nil]); omega)
    obtain ⟨s1, hs1⟩ : ∃ s, ml ++ t0 = s := ⟨_, rfl⟩
    rw [hs1] at k1 k2 k3 HE
    clear hs1
    obtain ⟨s2, hs2⟩ : ∃ s, s1 ++ t1 = s := ⟨_, rfl⟩
    rw [hs2] at k2 k3 HE
    clear hs2
    rw [HE.out] at k3
    clear hl HE HT HLN
    go_enter Tryz.func35, Tryz.ntmps35
    go_wp2_with (first | (go_at_call 15; refine (HMN.out _).mono ?_; rintro e' y1 ⟨rfl, hy⟩; have HU := Lib.hid (HU.out.trans hy); have HB0 := Lib.hid (HB0.out.up hy); obtain ⟨x0, x1, x2, x3, x4, x5, x6, x7, x8, x9, x10⟩ := HB0.out.all; have hlt := HB0.out.lt; clear hy) | (go_at_call 41; refine (HOP.out _).mono ?_; rintro e' y2 ⟨rfl, hy⟩; have HU := Lib.hid (HU.out.trans hy); have HB0 := Lib.hid (HB0.out.up hy); obtain ⟨x0, x1, x2, x3, x4, x5, x6, x7, x8, x9, x10⟩ := HB0.out.all; have hlt := HB0.out.lt; clear hy))
    refine wp_region_ext (by kernel_rfl) (by kernel_rfl) ?_
    repeat (go_big_quiet_step (first | (go_at_call 58; first | (with_reducible exact Calls.ext_of (HF0.out _)) | (with_reducible exact Calls.ext_of (HF1.out _)) | (with_reducible exact Calls.ext_of (HF2.out _)))))
    refine wpQuiet_nil ?_
    intro z5 hz
    have HU := Lib.hid (HU.out.trans hz)
    have HB0 := Lib.hid (HB0.out.up hz)
    clear x0 x1 x2 x3 x4 x5 x6 x7 x8 x9 x10 hz hlt
    obtain ⟨x0, x1, x2, x3, x4, x5, x6, x7, x8, x9, x10⟩ := HB0.out.all
    have hlt := HB0.out.lt
    go_wp2_with fail
    refine wp_region_ext (by kernel_rfl) (by kernel_rfl) ?_
    repeat (go_big_quiet_step (first | (go_at_call 58; first | (with_reducible exact Calls.ext_of (HF0.out _)) | (with_reducible exact Calls.ext_of (HF1.out _)) | (with_reducible exact Calls.ext_of (HF2.out _)))))
    refine wpQuiet_nil ?_
    intro z14 hz
    have HU := Lib.hid (HU.out.trans hz)
    have HB0 := Lib.hid (HB0.out.up hz)
    clear x0 x1 x2 x3 x4 x5 x6 x7 x8 x9 x10 hz hlt
    obtain ⟨x0, x1, x2, x3, x4, x5, x6, x7, x8, x9, x10⟩ := HB0.out.all
    have hlt := HB0.out.lt
    go_wp2_with (first | (go_at_call 44; refine (r47_typed _ false (by decide) _).mono ?_; rintro e' y5 ⟨rfl, rfl⟩))
    go_ret
    exact ⟨rfl, HU.out⟩
  · have hq : op = 16 := by omega
    clear hop ho
    subst hq
    have HE : Hid (ml ++ t0 ++ t1 ++ t2 = T) := Lib.hid (by rw [← HT.out]; simp [named, valued, typedB])
    have hl : ml.length + t0.length + t1.length + t2.length ≤ 366 := by
      have h1 := congrArg List.length HE.out
      have h2 := HLN.out
      simp only [List.length_append, List.length_cons, List.length_nil] at h1
      omega
    have k1 := cat (A := bst ml) (B := bst t0) (a := ml) (b := t0) rfl rfl rfl (by (try simp only [List.length_append, List.length_cons, List.length_nil]); omega) (by (try simp only [List.length_append, List.length_cons, List.length_nil]); omega)
    have k2 := cat (A := bst (ml ++ t0)) (B := bst t1) (a := (ml ++ t0)) (b := t1) rfl rfl rfl (by (try simp only [List.length_append, List.length_cons, List.length_nil]); omega) (by (try simp only [List.length_append, List.length_cons, List.length_nil]); omega)
    have k3 := cat (A := bst ((ml ++ t0) ++ t1)) (B := bst t2) (a := ((ml ++ t0) ++ t1)) (b := t2) rfl rfl rfl (by (try simp only [List.length_append, List.length_cons, List.length_nil]); omega) (by (try simp only [List.length_append, List.length_cons, List.length_nil]); omega)
    obtain ⟨s1, hs1⟩ : ∃ s, ml ++ t0 = s := ⟨_, rfl⟩
    rw [hs1] at k1 k2 k3 HE
    clear hs1
    obtain ⟨s2, hs2⟩ : ∃ s, s1 ++ t1 = s := ⟨_, rfl⟩
    rw [hs2] at k2 k3 HE
    clear hs2
    rw [HE.out] at k3
    clear hl HE HT HLN
    go_enter Tryz.func35, Tryz.ntmps35
    go_wp2_with (first | (go_at_call 15; refine (HMN.out _).mono ?_; rintro e' y1 ⟨rfl, hy⟩; have HU := Lib.hid (HU.out.trans hy); have HB0 := Lib.hid (HB0.out.up hy); obtain ⟨x0, x1, x2, x3, x4, x5, x6, x7, x8, x9, x10⟩ := HB0.out.all; have hlt := HB0.out.lt; clear hy) | (go_at_call 41; refine (HOP.out _).mono ?_; rintro e' y2 ⟨rfl, hy⟩; have HU := Lib.hid (HU.out.trans hy); have HB0 := Lib.hid (HB0.out.up hy); obtain ⟨x0, x1, x2, x3, x4, x5, x6, x7, x8, x9, x10⟩ := HB0.out.all; have hlt := HB0.out.lt; clear hy))
    refine wp_region_ext (by kernel_rfl) (by kernel_rfl) ?_
    repeat (go_big_quiet_step (first | (go_at_call 58; first | (with_reducible exact Calls.ext_of (HF0.out _)) | (with_reducible exact Calls.ext_of (HF1.out _)) | (with_reducible exact Calls.ext_of (HF2.out _)))))
    refine wpQuiet_nil ?_
    intro z5 hz
    have HU := Lib.hid (HU.out.trans hz)
    have HB0 := Lib.hid (HB0.out.up hz)
    clear x0 x1 x2 x3 x4 x5 x6 x7 x8 x9 x10 hz hlt
    obtain ⟨x0, x1, x2, x3, x4, x5, x6, x7, x8, x9, x10⟩ := HB0.out.all
    have hlt := HB0.out.lt
    go_wp2_with fail
    refine wp_region_ext (by kernel_rfl) (by kernel_rfl) ?_
    repeat (go_big_quiet_step (first | (go_at_call 58; first | (with_reducible exact Calls.ext_of (HF0.out _)) | (with_reducible exact Calls.ext_of (HF1.out _)) | (with_reducible exact Calls.ext_of (HF2.out _)))))
    refine wpQuiet_nil ?_
    intro z14 hz
    have HU := Lib.hid (HU.out.trans hz)
    have HB0 := Lib.hid (HB0.out.up hz)
    clear x0 x1 x2 x3 x4 x5 x6 x7 x8 x9 x10 hz hlt
    obtain ⟨x0, x1, x2, x3, x4, x5, x6, x7, x8, x9, x10⟩ := HB0.out.all
    have hlt := HB0.out.lt
    go_wp2_with (first | (go_at_call 44; refine (r47_typed _ false (by decide) _).mono ?_; rintro e' y5 ⟨rfl, rfl⟩))
    go_ret
    exact ⟨rfl, HU.out⟩
end Go.Proofs.YtlglfdhiopnglaaGreatDoor
