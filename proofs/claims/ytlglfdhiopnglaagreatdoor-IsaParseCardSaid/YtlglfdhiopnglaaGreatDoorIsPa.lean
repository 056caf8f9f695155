/-
  The reference 1, reading: Parse. Printed by mkIsPa.py.
-/
import Derived.Test.YtlglfdhiopnglaaGreatDoorGk
import Derived.Test.YtlglfdhiopnglaaGreatDoorIsDg
namespace Go.Proofs.YtlglfdhiopnglaaGreatDoor
open Go.ChangeShapes Go.WideShapes Go.ChangeAt Go.RowKit
set_option linter.unusedVariables false
set_option linter.unusedSimpArgs false
set_option maxRecDepth 100000

theorem whole_hg {S : List UInt8} (h : wholeF S = true) : ∀ k, k < S.length → S.getD k 0 ≠ 45 → dgB (S.getD k 0) = true := by
  intro k hk h45
  unfold wholeF at h
  rw [Bool.and_eq_true, List.all_eq_true] at h
  have ha := h.1
  have hmem : S.getD k 0 ∈ S := by
    rw [List.getD_eq_getElem?_getD, List.getElem?_eq_getElem hk]
    exact List.getElem_mem hk
  by_cases hc : 1 < S.length ∧ S.headD 0 = 45
  · rw [if_pos hc] at ha
    cases S with
    | nil => simp at hk
    | cons c r =>
      cases k with
      | zero => exact absurd hc.2 h45
      | succ k =>
        refine ha _ ?_
        rw [List.tail_cons]
        rw [List.length_cons] at hk
        rw [List.getD_cons_succ, List.getD_eq_getElem?_getD, List.getElem?_eq_getElem (by omega)]
        exact List.getElem_mem _
  · rw [if_neg hc] at ha
    exact ha _ hmem
theorem whole_ne {S : List UInt8} (h : wholeF S = true) : S ≠ [] := by rintro rfl; revert h; decide
theorem vluG_bd : ∀ (l : List UInt8) (n m : Nat), n ≤ 2147483647 → vluG l n = some m → m ≤ 2147483647
  | [], n, m, hn, h => by injection h with h; omega
  | c :: r, n, m, hn, h => by
    rw [vluG] at h
    split at h
    · exact vluG_bd r n m hn h
    · split at h
      · cases h
      · exact vluG_bd r _ m (by omega) h
theorem vluF_bd (S : List UInt8) : -2147483647 ≤ (vluF S).1 ∧ (vluF S).1 ≤ 2147483647 := by
  unfold vluF
  cases h : vluG S 0 with
  | none => exact ⟨(by decide : (-2147483647 : Int) ≤ 0), (by decide : (0 : Int) ≤ 2147483647)⟩
  | some n =>
    have := vluG_bd S 0 n (by omega) h
    dsimp only
    split <;> constructor <;> omega
/-- What is left of Parse behind its loop. -/
def rpT (up down : List UInt8) : (Int × Int) × Int := if wholeF up = false then ((0, 0), 5) else rparG (vluF up) (vluF (if down = [] then [49] else down))
theorem rparF_none {S : List UInt8} (h : (47 : UInt8) ∉ S) : rparF S = rpT S [] := by
  unfold rparF
  rw [cut_none h]
  unfold rparH rpT
  rw [if_neg (fun h => by cases h.1), if_pos rfl]
  rfl
theorem rparF_at {a b : List UInt8} (h : (47 : UInt8) ∉ a) : rparF (a ++ 47 :: b) = if wholeF b = false ∨ b.headD 0 = 45 ∨ b = [48] ∨ b = [49] then ((0, 0), 5) else rpT a b := by
  unfold rparF
  rw [cut_at h]
  unfold rparH rpT
  by_cases hc : wholeF b = false ∨ b.headD 0 = 45 ∨ b = [48] ∨ b = [49]
  · rw [if_pos ⟨rfl, hc⟩, if_pos hc]
  · rw [if_neg (fun h => hc h.2), if_neg hc]
    have hb : b ≠ [] := whole_ne (by have := fun h => hc (.inl h); simpa using this)
    rw [if_neg hb, if_pos rfl]
theorem split_at {S : List UInt8} {i : Nat} (hi : i < S.length) (hc : S.getD i 0 = 47) : S = S.take i ++ 47 :: S.drop (i + 1) := by
  conv => lhs; rw [← List.take_append_drop i S]
  rw [List.drop_eq_getElem_cons hi]
  rw [List.getD_eq_getElem?_getD, List.getElem?_eq_getElem hi] at hc
  simp only [Option.getD_some] at hc
  rw [hc]
theorem take_no {S : List UInt8} {i : Nat} {b : UInt8} (hi : i < S.length) (h : b ∉ S.take i) (hc : S.getD i 0 ≠ b) : b ∉ S.take (i + 1) := by
  rw [List.take_add_one, List.mem_append]
  rintro (h' | h')
  · exact h h'
  · rw [List.getElem?_eq_getElem hi] at h'
    simp only [Option.toList_some, List.mem_singleton] at h'
    apply hc
    rw [List.getD_eq_getElem?_getD, List.getElem?_eq_getElem hi, h']; rfl
/-- Parse at its loop's head. -/
def PaAt (S up down : List UInt8) (i : Nat) : Prop :=
  (up = S ∧ down = [] ∧ i ≤ S.length ∧ (47 : UInt8) ∉ S.take i) ∨ (down ≠ [] ∧ wholeF down = true ∧ up.length ≤ S.length ∧ down.length ≤ S.length ∧ rparF S = rpT up down)
theorem mag_gcd (a b : Int) : (Int.gcd (mag a) (mag b) : Int) = Int.gcd a b := by
  have e : ∀ x, mag x = (x.natAbs : Int) := fun x => by unfold mag; split <;> omega
  rw [e, e]
  simp [Int.gcd]
theorem mag_bd {n : Int} (h1 : -2147483647 ≤ n) (h2 : n ≤ 2147483647) : 0 ≤ mag n ∧ mag n < 18446744073709551616 := by
  unfold mag; split <;> omega

set_option maxHeartbeats 8000000 in
theorem r01_Parse (S : List UInt8) (hS : S.length ≤ 10000) : RPar S := by
  intro w
  obtain ⟨⟨⟨r1, r2⟩, r3⟩, hR⟩ : ∃ R, rparF S = R := ⟨_, rfl⟩
  rw [hR]
  obtain ⟨n, hn⟩ : ∃ n, S.length = n := ⟨_, rfl⟩
  rw [hn] at hS
  have hz : (bst S).size = n := by simp [bst, ByteArray.size, hn]
  have HN := Lib.hid hn
  have HR := Lib.hid hR
  have HIX := Lib.hid (fun (i : Nat) (k : Int) (hk : k = i) (hi : i < n) w => str_index S i k hk (by rw [hn]; exact hi) w)
  have HSL : Hid (∀ st i : Nat, st ≤ i → i ≤ n → (bst S).extract st i = bst ((S.drop st).take (i - st))) := Lib.hid (fun st i h1 h2 => by
    apply ByteArray.ext
    rw [ByteArray.data_extract]
    show (S.toArray).extract st i = _
    rw [List.extract_toArray, List.extract_eq_take_drop]
    rfl)
  have HP0 : Hid (PaAt S S [] 0) := Lib.hid (.inl ⟨rfl, rfl, by omega, by simp⟩)
  clear hn hR
  obtain ⟨B, hB⟩ : ∃ B, bst S = B := ⟨_, rfl⟩
  have HBS := Lib.hid hB
  rw [hB] at HIX HSL hz ⊢
  have HZ := Lib.hid hz
  have hnI : (n : Int) ≤ 10000 := by omega
  clear hz hB
  have HU1 : Hid (Up w (w.alloc (.cells #[.int .i64 0, .int .i64 0] 38))) := Lib.hid ((Up.refl w).alloc _)
  have HB1 : Hid (BoxC (w.alloc (.cells #[.int .i64 0, .int .i64 0] 38)) w.heap.size 38 #[.int .i64 0, .int .i64 0]) := Lib.hid (BoxC.new w _ _)
  dsimp only
  go_enter Tryz.func70, Tryz.ntmps70
  go_wp2
  go_loopw [4, 5, 6] (fun uv dv iv wr => ∃ (up down : List UInt8) (i : Nat), uv = .string (bst up) ∧ dv = .string (bst down) ∧ iv = .int .i64 i ∧ i ≤ n ∧ PaAt S up down i ∧ Up w wr ∧ BoxC wr w.heap.size 38 #[.int .i64 0, .int .i64 0]) (fun _ _ iv _ => n - (intOf iv).toNat)
  case atStart => exact ⟨S, [], 0, by rw [HBS.out], rfl, rfl, by omega, HP0.out, HU1.out, HB1.out⟩
  case round =>
    rename World => wr
    obtain ⟨up, down, i, rfl, rfl, rfl, hi, hpa, hup, hbx⟩ := hrel
    have HU0 := Lib.hid hup
    have B0 := Lib.hid hbx
    obtain ⟨c0, c1⟩ := B0.out.two
    have cf := B0.out.frozen
    clear hup hbx HU1 HB1 HP0
    rcases hpa with ⟨rfl, rfl, hil, hno⟩ | ⟨hdn, hwd, hul, hdl, heq⟩
    · have HNO := Lib.hid hno
      clear hno hil
      rw [HBS.out]
      have qe : ((bst ([] : List UInt8)).toList == []) = true := by rw [bst_list]; rfl
      by_cases hlt : i < n
      · have hltI : (i : Int) < (B.size : Int) := by rw [HZ.out]; omega
        have hx := HIX.out i i rfl hlt
        obtain ⟨c, hc⟩ : ∃ c, up.getD i 0 = c := ⟨_, rfl⟩
        rw [hc] at hx
        by_cases h47 : c = 47
        · have HSP : Hid (up = up.take i ++ 47 :: up.drop (i + 1)) := Lib.hid (split_at (by rw [HN.out]; exact hlt) (hc.trans h47))
          have HRA : Hid ((if wholeF (up.drop (i + 1)) = false ∨ (up.drop (i + 1)).headD 0 = 45 ∨ up.drop (i + 1) = [48] ∨ up.drop (i + 1) = [49] then ((0, 0), 5) else rpT (up.take i) (up.drop (i + 1))) = ((r1, r2), r3)) := Lib.hid (by
            rw [← rparF_at HNO.out, ← HSP.out]; exact HR.out)
          have hs1 : B.extract 0 i = bst (up.take i) := by
            have := HSL.out 0 i (by omega) (by omega)
            rw [this, List.drop_zero, Nat.sub_zero]
          have hs2 : B.extract (i + 1) B.size = bst (up.drop (i + 1)) := by
            rw [HZ.out, HSL.out (i + 1) n (by omega) (by omega), List.take_of_length_le (by rw [List.length_drop, HN.out]; omega)]
          have hiI : ((i : Int) + 1) ≤ (B.size : Int) := by omega
          have hlD : (up.drop (i + 1)).length ≤ 10000 := by rw [List.length_drop, HN.out]; omega
          have hlU : (up.take i).length ≤ up.length := by rw [List.length_take]; omega
          have hlD2 : (up.drop (i + 1)).length ≤ up.length := by rw [List.length_drop]; omega
          have HWH := Lib.hid (fun y => r01_Whole (up.drop (i + 1)) hlD y)
          have HLU := Lib.hid hlU
          have HLD := Lib.hid hlD2
          subst h47
          have hx' : ∀ (w : World), (Instr.index 9 (.string B) (.int .i64 (i : Int))).run Tryz.prog w = .ok (.int .u8 47) w := hx
          clear hc HSP hlU hlD2 hx hlD
          obtain ⟨D, hD⟩ : ∃ D, up.drop (i + 1) = D := ⟨_, rfl⟩
          obtain ⟨U, hU⟩ : ∃ U, up.take i = U := ⟨_, rfl⟩
          rw [hD] at HWH HRA hs2 HLD
          rw [hU] at HRA hs1 HLU
          clear hD hU
          have HDX : Hid (0 < D.length → ∀ w, (Instr.index 9 (.string (bst D)) (.int .i64 0)).run Tryz.prog w = .ok (.int .u8 ((D.getD 0 0).toNat : Int)) w) := Lib.hid (fun h w => str_index D 0 0 rfl h w)
          have q48 : ((bst D).toList == [48]) = decide (D = [48]) := by rw [bst_list]; by_cases e : D = [48] <;> simp [e]
          have q49 : ((bst D).toList == [49]) = decide (D = [49]) := by rw [bst_list]; by_cases e : D = [49] <;> simp [e]
          obtain ⟨wd, hwd⟩ : ∃ t, wholeF D = t := ⟨_, rfl⟩
          rw [hwd] at HWH HRA
          cases wd
          · have HE : Hid (((0 : Int), (0 : Int)) = (r1, r2) ∧ (5 : Int) = r3) := Lib.hid (by have h := HRA.out; rw [if_pos (.inl rfl)] at h; exact Prod.mk.inj h)
            clear q48 q49 HRA
            go_wp2_with (go_at_call 96; refine (HWH.out _).mono ?_; rintro e x ⟨rfl, hx⟩; replace HU0 := Lib.hid (HU0.out.trans hx); replace B0 := Lib.hid (B0.out.up hx); clear hx; (try clear c0 c1 cf); obtain ⟨c0, c1⟩ := B0.out.two; have cf := B0.out.frozen)
            have HF := Lib.hid ((HU0.out.setCell (p := ⟨w.heap.size, 0, none⟩) (Nat.le_refl _) (.int .i64 0)).setCell (p := ⟨w.heap.size, 1, none⟩) (Nat.le_refl _) (.int .i64 0))
            refine bodyPost_ret (v := .tuple #[.agg #[.int .i64 0, .int .i64 0], .int .i64 5]) (by simp [results, Tryz.results70, go_sem, *]) rfl ?_
            obtain ⟨hh1, rfl⟩ := HE.out
            obtain ⟨rfl, rfl⟩ := Prod.mk.inj hh1
            exact ⟨rfl, HF.out⟩
          · have hpos : 0 < D.length := by
              have := whole_ne hwd
              cases D with
              | nil => exact absurd rfl this
              | cons _ _ => simp
            have hxD := HDX.out hpos
            have HWD := Lib.hid hwd
            clear hwd
            obtain ⟨c2, hc2⟩ : ∃ c, D.getD 0 0 = c := ⟨_, rfl⟩
            have HH : Hid (D.headD 0 = c2) := Lib.hid (by rw [← hc2]; cases D <;> rfl)
            rw [hc2] at hxD
            clear hc2
            by_cases h45 : c2 = 45
            · have HE : Hid (((0 : Int), (0 : Int)) = (r1, r2) ∧ (5 : Int) = r3) := Lib.hid (by have h := HRA.out; rw [if_pos (.inr (.inl (HH.out.trans h45)))] at h; exact Prod.mk.inj h)
              subst h45
              have hxD' : ∀ (w : World), (Instr.index 9 (.string (bst D)) (.int .i64 0)).run Tryz.prog w = .ok (.int .u8 45) w := hxD
              clear q48 q49 HRA hxD
              go_wp2_with (go_at_call 96; refine (HWH.out _).mono ?_; rintro e x ⟨rfl, hx⟩; replace HU0 := Lib.hid (HU0.out.trans hx); replace B0 := Lib.hid (B0.out.up hx); clear hx; (try clear c0 c1 cf); obtain ⟨c0, c1⟩ := B0.out.two; have cf := B0.out.frozen)
              have HF := Lib.hid ((HU0.out.setCell (p := ⟨w.heap.size, 0, none⟩) (Nat.le_refl _) (.int .i64 0)).setCell (p := ⟨w.heap.size, 1, none⟩) (Nat.le_refl _) (.int .i64 0))
              refine bodyPost_ret (v := .tuple #[.agg #[.int .i64 0, .int .i64 0], .int .i64 5]) (by simp [results, Tryz.results70, go_sem, *]) rfl ?_
              obtain ⟨hh1, rfl⟩ := HE.out
              obtain ⟨rfl, rfl⟩ := Prod.mk.inj hh1
              exact ⟨rfl, HF.out⟩
            · have hcq : ((c2.toNat : Int) == 45) = false := by
                simp only [beq_eq_false_iff_ne]; intro e; apply h45; apply UInt8.toNat.inj; show c2.toNat = 45; omega
              have HH2 : Hid (¬ D.headD 0 = 45) := Lib.hid (by rw [HH.out]; exact h45)
              clear h45
              obtain ⟨x, hxx⟩ : ∃ x : Int, (c2.toNat : Int) = x := ⟨_, rfl⟩
              rw [hxx] at hxD hcq
              clear hxx
              by_cases e48 : D = [48]
              · have HE : Hid (((0 : Int), (0 : Int)) = (r1, r2) ∧ (5 : Int) = r3) := Lib.hid (by have h := HRA.out; rw [if_pos (.inr (.inr (.inl e48)))] at h; exact Prod.mk.inj h)
                rw [decide_eq_true e48] at q48
                clear q49 HRA e48
                go_wp2_with (go_at_call 96; refine (HWH.out _).mono ?_; rintro e x ⟨rfl, hx⟩; replace HU0 := Lib.hid (HU0.out.trans hx); replace B0 := Lib.hid (B0.out.up hx); clear hx; (try clear c0 c1 cf); obtain ⟨c0, c1⟩ := B0.out.two; have cf := B0.out.frozen)
                have HF := Lib.hid ((HU0.out.setCell (p := ⟨w.heap.size, 0, none⟩) (Nat.le_refl _) (.int .i64 0)).setCell (p := ⟨w.heap.size, 1, none⟩) (Nat.le_refl _) (.int .i64 0))
                refine bodyPost_ret (v := .tuple #[.agg #[.int .i64 0, .int .i64 0], .int .i64 5]) (by simp [results, Tryz.results70, go_sem, *]) rfl ?_
                obtain ⟨hh1, rfl⟩ := HE.out
                obtain ⟨rfl, rfl⟩ := Prod.mk.inj hh1
                exact ⟨rfl, HF.out⟩
              by_cases e49 : D = [49]
              · have HE : Hid (((0 : Int), (0 : Int)) = (r1, r2) ∧ (5 : Int) = r3) := Lib.hid (by have h := HRA.out; rw [if_pos (.inr (.inr (.inr e49)))] at h; exact Prod.mk.inj h)
                rw [decide_eq_false e48] at q48
                rw [decide_eq_true e49] at q49
                clear HRA e48 e49
                go_wp2_with (go_at_call 96; refine (HWH.out _).mono ?_; rintro e x ⟨rfl, hx⟩; replace HU0 := Lib.hid (HU0.out.trans hx); replace B0 := Lib.hid (B0.out.up hx); clear hx; (try clear c0 c1 cf); obtain ⟨c0, c1⟩ := B0.out.two; have cf := B0.out.frozen)
                have HF := Lib.hid ((HU0.out.setCell (p := ⟨w.heap.size, 0, none⟩) (Nat.le_refl _) (.int .i64 0)).setCell (p := ⟨w.heap.size, 1, none⟩) (Nat.le_refl _) (.int .i64 0))
                refine bodyPost_ret (v := .tuple #[.agg #[.int .i64 0, .int .i64 0], .int .i64 5]) (by simp [results, Tryz.results70, go_sem, *]) rfl ?_
                obtain ⟨hh1, rfl⟩ := HE.out
                obtain ⟨rfl, rfl⟩ := Prod.mk.inj hh1
                exact ⟨rfl, HF.out⟩
              have HE : Hid (rparF up = rpT U D) := Lib.hid (by have h := HRA.out; rw [if_neg (by rintro (h | h | h | h); cases h; exact HH2.out h; exact e48 h; exact e49 h)] at h; rw [h]; exact HR.out)
              rw [decide_eq_false e48] at q48
              rw [decide_eq_false e49] at q49
              have HP : Hid (PaAt up U D (i + 1)) := Lib.hid (.inr ⟨whole_ne HWD.out, HWD.out, HLU.out, HLD.out, HE.out⟩)
              clear HRA e48 e49
              go_wp2_with (go_at_call 96; refine (HWH.out _).mono ?_; rintro e x ⟨rfl, hx⟩; replace HU0 := Lib.hid (HU0.out.trans hx); replace B0 := Lib.hid (B0.out.up hx); clear hx; (try clear c0 c1 cf); obtain ⟨c0, c1⟩ := B0.out.two; have cf := B0.out.frozen)
              try go_roundw
              case rel => exact ⟨U, D, i + 1, rfl, rfl, by go_num, by omega, HP.out, HU0.out, B0.out⟩
              case measure => simp [intOf]; omega
        · have hcq : ((c.toNat : Int) == 47) = false := by
            simp only [beq_eq_false_iff_ne]; intro e; apply h47; apply UInt8.toNat.inj; show c.toNat = 47; omega
          have HP : Hid (PaAt up up [] (i + 1)) := Lib.hid (.inl ⟨rfl, rfl, by rw [HN.out]; omega, take_no (by rw [HN.out]; exact hlt) HNO.out (by rw [hc]; exact h47)⟩)
          clear hc h47
          obtain ⟨x, hxx⟩ : ∃ x : Int, (c.toNat : Int) = x := ⟨_, rfl⟩
          rw [hxx] at hx hcq
          clear hxx
          go_wp2
          try go_roundw
          case rel => exact ⟨up, [], i + 1, by rw [HBS.out], rfl, by go_num, by omega, HP.out, HU0.out, B0.out⟩
          case measure => simp [intOf]; omega
      · obtain rfl : i = n := by omega
        have hltI : ¬ (i : Int) < (B.size : Int) := by rw [HZ.out]; omega
        have HT : Hid (rpT up [] = ((r1, r2), r3)) := Lib.hid (by
          rw [← rparF_none]
          · exact HR.out
          · have h := HNO.out
            rwa [List.take_of_length_le (by rw [HN.out]; exact Nat.le_refl _)] at h)
        have hlu : up.length ≤ 10000 := by rw [HN.out]; exact hS
        have HWH := Lib.hid (fun y => r01_Whole up hlu y)
        have HV1 := Lib.hid (fun (h : wholeF up = true) y => r01_value up hlu (whole_hg h) y)
        have HV2 : Hid (∀ y, Calls Tryz.prog 97 #[.string ⟨#[49]⟩] y fun e w' => e = .returned (.tuple #[.int .i64 (vluF [49]).1, .bool (vluF [49]).2]) ∧ Up y w') := Lib.hid (fun y => r01_value [49] (by decide) (by decide) y)
        rw [HBS.out] at HWH HV1
        have hb1 := vluF_bd up
        have hb2 := vluF_bd [49]
        unfold rpT at HT
        rw [if_pos rfl] at HT
        generalize vluF [49] = v2 at *
        generalize vluF up = v1 at *
        obtain ⟨n1, k1⟩ := v1
        obtain ⟨n2, k2⟩ := v2
        dsimp only at hb1 hb2 HT HV1 HV2
        obtain ⟨wu, hwu⟩ : ∃ t, wholeF up = t := ⟨_, rfl⟩
        rw [hwu] at HWH HV1 HT
        clear hwu
        cases wu
        · have HE : Hid (((0 : Int), (0 : Int)) = (r1, r2) ∧ (5 : Int) = r3) := Lib.hid (by have h := HT.out; rw [if_pos rfl] at h; exact Prod.mk.inj h)
          clear HT HV1 HV2 hb1 hb2
          go_wp2_with (go_at_call 96; refine (HWH.out _).mono ?_; rintro e x ⟨rfl, hx⟩; replace HU0 := Lib.hid (HU0.out.trans hx); replace B0 := Lib.hid (B0.out.up hx); clear hx; (try clear c0 c1 cf); obtain ⟨c0, c1⟩ := B0.out.two; have cf := B0.out.frozen)
          have HF := Lib.hid ((HU0.out.setCell (p := ⟨w.heap.size, 0, none⟩) (Nat.le_refl _) (.int .i64 0)).setCell (p := ⟨w.heap.size, 1, none⟩) (Nat.le_refl _) (.int .i64 0))
          refine bodyPost_ret (v := .tuple #[.agg #[.int .i64 0, .int .i64 0], .int .i64 5]) (by simp [results, Tryz.results70, go_sem, *]) rfl ?_
          obtain ⟨hh1, rfl⟩ := HE.out
          obtain ⟨rfl, rfl⟩ := Prod.mk.inj hh1
          exact ⟨rfl, HF.out⟩
        have HG : Hid (rparG (n1, k1) (n2, k2) = ((r1, r2), r3)) := Lib.hid (by have h := HT.out; rw [if_neg (by decide)] at h; exact h)
        replace HV1 := Lib.hid (HV1.out rfl)
        unfold rparG at HG
        clear HT
        cases k1
        · have HE : Hid (((0 : Int), (0 : Int)) = (r1, r2) ∧ (3 : Int) = r3) := Lib.hid (by have h := HG.out; rw [if_pos (.inl rfl)] at h; exact Prod.mk.inj h)
          clear HG hb1 hb2
          go_wp2_with (first
          | (go_at_call 96; refine (HWH.out _).mono ?_; rintro e x ⟨rfl, hx⟩; replace HU0 := Lib.hid (HU0.out.trans hx); replace B0 := Lib.hid (B0.out.up hx); clear hx; (try clear c0 c1 cf); obtain ⟨c0, c1⟩ := B0.out.two; have cf := B0.out.frozen)
          | (go_at_call 97; (first | (with_reducible refine (HV1.out _).mono ?_) | (with_reducible refine (HV2.out _).mono ?_)); rintro e x ⟨rfl, hx⟩; replace HU0 := Lib.hid (HU0.out.trans hx); replace B0 := Lib.hid (B0.out.up hx); clear hx; (try clear c0 c1 cf); obtain ⟨c0, c1⟩ := B0.out.two; have cf := B0.out.frozen)
          | (go_at_call 86; (first | (with_reducible refine (HS1.out _).mono ?_) | (with_reducible refine (HS2.out _).mono ?_)); rintro e x ⟨rfl, hx⟩; replace HU0 := Lib.hid (HU0.out.trans hx); replace B0 := Lib.hid (B0.out.up hx); clear hx; (try clear c0 c1 cf); obtain ⟨c0, c1⟩ := B0.out.two; have cf := B0.out.frozen)
          | (go_at_call 98; refine (HGC.out _).mono ?_; rintro e x ⟨rfl, hx⟩; replace HU0 := Lib.hid (HU0.out.trans hx); replace B0 := Lib.hid (B0.out.up hx); clear hx; (try clear c0 c1 cf); obtain ⟨c0, c1⟩ := B0.out.two; have cf := B0.out.frozen))
          have HF := Lib.hid ((HU0.out.setCell (p := ⟨w.heap.size, 0, none⟩) (Nat.le_refl _) (.int .i64 0)).setCell (p := ⟨w.heap.size, 1, none⟩) (Nat.le_refl _) (.int .i64 0))
          refine bodyPost_ret (v := .tuple #[.agg #[.int .i64 0, .int .i64 0], .int .i64 3]) (by simp [results, Tryz.results70, go_sem, *]) rfl ?_
          obtain ⟨hh1, rfl⟩ := HE.out
          obtain ⟨rfl, rfl⟩ := Prod.mk.inj hh1
          exact ⟨rfl, HF.out⟩
        cases k2
        · have HE : Hid (((0 : Int), (0 : Int)) = (r1, r2) ∧ (3 : Int) = r3) := Lib.hid (by have h := HG.out; rw [if_pos (.inr rfl)] at h; exact Prod.mk.inj h)
          clear HG hb1 hb2
          go_wp2_with (first
          | (go_at_call 96; refine (HWH.out _).mono ?_; rintro e x ⟨rfl, hx⟩; replace HU0 := Lib.hid (HU0.out.trans hx); replace B0 := Lib.hid (B0.out.up hx); clear hx; (try clear c0 c1 cf); obtain ⟨c0, c1⟩ := B0.out.two; have cf := B0.out.frozen)
          | (go_at_call 97; (first | (with_reducible refine (HV1.out _).mono ?_) | (with_reducible refine (HV2.out _).mono ?_)); rintro e x ⟨rfl, hx⟩; replace HU0 := Lib.hid (HU0.out.trans hx); replace B0 := Lib.hid (B0.out.up hx); clear hx; (try clear c0 c1 cf); obtain ⟨c0, c1⟩ := B0.out.two; have cf := B0.out.frozen)
          | (go_at_call 86; (first | (with_reducible refine (HS1.out _).mono ?_) | (with_reducible refine (HS2.out _).mono ?_)); rintro e x ⟨rfl, hx⟩; replace HU0 := Lib.hid (HU0.out.trans hx); replace B0 := Lib.hid (B0.out.up hx); clear hx; (try clear c0 c1 cf); obtain ⟨c0, c1⟩ := B0.out.two; have cf := B0.out.frozen)
          | (go_at_call 98; refine (HGC.out _).mono ?_; rintro e x ⟨rfl, hx⟩; replace HU0 := Lib.hid (HU0.out.trans hx); replace B0 := Lib.hid (B0.out.up hx); clear hx; (try clear c0 c1 cf); obtain ⟨c0, c1⟩ := B0.out.two; have cf := B0.out.frozen))
          have HF := Lib.hid ((HU0.out.setCell (p := ⟨w.heap.size, 0, none⟩) (Nat.le_refl _) (.int .i64 0)).setCell (p := ⟨w.heap.size, 1, none⟩) (Nat.le_refl _) (.int .i64 0))
          refine bodyPost_ret (v := .tuple #[.agg #[.int .i64 0, .int .i64 0], .int .i64 3]) (by simp [results, Tryz.results70, go_sem, *]) rfl ?_
          obtain ⟨hh1, rfl⟩ := HE.out
          obtain ⟨rfl, rfl⟩ := Prod.mk.inj hh1
          exact ⟨rfl, HF.out⟩
        have HS1 := Lib.hid (fun y => r01_size n1 (mag n1) rfl ⟨by omega, by omega⟩ y)
        have HS2 := Lib.hid (fun y => r01_size n2 (mag n2) rfl ⟨by omega, by omega⟩ y)
        have m1 := mag_bd hb1.1 hb1.2
        have m2 := mag_bd hb2.1 hb2.2
        have HGC := Lib.hid (fun y => r01_gcd' (mag n1) (mag n2) (Int.gcd n1 n2) (mag_gcd n1 n2) m1.1 m1.2 m2.1 m2.2 y)
        have HG2 : Hid ((if (Int.gcd n1 n2 : Int) ≠ 1 then ((0, 0), 5) else ((n1, n2), 0)) = ((r1, r2), r3)) := Lib.hid (by
          have h := HG.out
          rw [if_neg (by simp)] at h
          have e : ((Int.gcd n1 n2 : Int) ≠ 1) = (Int.gcd n1 n2 ≠ 1) := propext ⟨fun h e => h (by omega), fun h e => h (by omega)⟩
          simp only [e]
          exact h)
        clear HG m1 m2 hb1 hb2
        generalize (Int.gcd n1 n2 : Int) = g at *
        generalize mag n1 = m1 at *
        generalize mag n2 = m2 at *
        by_cases hg : g = 1
        · have HE : Hid ((n1, n2) = (r1, r2) ∧ (0 : Int) = r3) := Lib.hid (by have h := HG2.out; rw [if_neg (by simpa using hg)] at h; exact Prod.mk.inj h)
          subst hg
          clear HG2
          go_wp2_with (first
          | (go_at_call 96; refine (HWH.out _).mono ?_; rintro e x ⟨rfl, hx⟩; replace HU0 := Lib.hid (HU0.out.trans hx); replace B0 := Lib.hid (B0.out.up hx); clear hx; (try clear c0 c1 cf); obtain ⟨c0, c1⟩ := B0.out.two; have cf := B0.out.frozen)
          | (go_at_call 97; (first | (with_reducible refine (HV1.out _).mono ?_) | (with_reducible refine (HV2.out _).mono ?_)); rintro e x ⟨rfl, hx⟩; replace HU0 := Lib.hid (HU0.out.trans hx); replace B0 := Lib.hid (B0.out.up hx); clear hx; (try clear c0 c1 cf); obtain ⟨c0, c1⟩ := B0.out.two; have cf := B0.out.frozen)
          | (go_at_call 86; (first | (with_reducible refine (HS1.out _).mono ?_) | (with_reducible refine (HS2.out _).mono ?_)); rintro e x ⟨rfl, hx⟩; replace HU0 := Lib.hid (HU0.out.trans hx); replace B0 := Lib.hid (B0.out.up hx); clear hx; (try clear c0 c1 cf); obtain ⟨c0, c1⟩ := B0.out.two; have cf := B0.out.frozen)
          | (go_at_call 98; refine (HGC.out _).mono ?_; rintro e x ⟨rfl, hx⟩; replace HU0 := Lib.hid (HU0.out.trans hx); replace B0 := Lib.hid (B0.out.up hx); clear hx; (try clear c0 c1 cf); obtain ⟨c0, c1⟩ := B0.out.two; have cf := B0.out.frozen))
          have HF := Lib.hid ((HU0.out.setCell (p := ⟨w.heap.size, 0, none⟩) (Nat.le_refl _) (.int .i64 n1)).setCell (p := ⟨w.heap.size, 1, none⟩) (Nat.le_refl _) (.int .i64 n2))
          refine bodyPost_ret (v := .tuple #[.agg #[.int .i64 n1, .int .i64 n2], .int .i64 0]) (by simp [results, Tryz.results70, go_sem, *]) rfl ?_
          obtain ⟨hh1, rfl⟩ := HE.out
          obtain ⟨rfl, rfl⟩ := Prod.mk.inj hh1
          exact ⟨rfl, HF.out⟩
        · have HE : Hid (((0 : Int), (0 : Int)) = (r1, r2) ∧ (5 : Int) = r3) := Lib.hid (by have h := HG2.out; rw [if_pos (by simpa using hg)] at h; exact Prod.mk.inj h)
          have hgb : (g == 1) = false := by simpa using hg
          have hgc : (g != 1) = true := by simpa using hg
          clear HG2 hg
          go_wp2_with (first
          | (go_at_call 96; refine (HWH.out _).mono ?_; rintro e x ⟨rfl, hx⟩; replace HU0 := Lib.hid (HU0.out.trans hx); replace B0 := Lib.hid (B0.out.up hx); clear hx; (try clear c0 c1 cf); obtain ⟨c0, c1⟩ := B0.out.two; have cf := B0.out.frozen)
          | (go_at_call 97; (first | (with_reducible refine (HV1.out _).mono ?_) | (with_reducible refine (HV2.out _).mono ?_)); rintro e x ⟨rfl, hx⟩; replace HU0 := Lib.hid (HU0.out.trans hx); replace B0 := Lib.hid (B0.out.up hx); clear hx; (try clear c0 c1 cf); obtain ⟨c0, c1⟩ := B0.out.two; have cf := B0.out.frozen)
          | (go_at_call 86; (first | (with_reducible refine (HS1.out _).mono ?_) | (with_reducible refine (HS2.out _).mono ?_)); rintro e x ⟨rfl, hx⟩; replace HU0 := Lib.hid (HU0.out.trans hx); replace B0 := Lib.hid (B0.out.up hx); clear hx; (try clear c0 c1 cf); obtain ⟨c0, c1⟩ := B0.out.two; have cf := B0.out.frozen)
          | (go_at_call 98; refine (HGC.out _).mono ?_; rintro e x ⟨rfl, hx⟩; replace HU0 := Lib.hid (HU0.out.trans hx); replace B0 := Lib.hid (B0.out.up hx); clear hx; (try clear c0 c1 cf); obtain ⟨c0, c1⟩ := B0.out.two; have cf := B0.out.frozen))
          have HF := Lib.hid ((HU0.out.setCell (p := ⟨w.heap.size, 0, none⟩) (Nat.le_refl _) (.int .i64 0)).setCell (p := ⟨w.heap.size, 1, none⟩) (Nat.le_refl _) (.int .i64 0))
          refine bodyPost_ret (v := .tuple #[.agg #[.int .i64 0, .int .i64 0], .int .i64 5]) (by simp [results, Tryz.results70, go_sem, *]) rfl ?_
          obtain ⟨hh1, rfl⟩ := HE.out
          obtain ⟨rfl, rfl⟩ := Prod.mk.inj hh1
          exact ⟨rfl, HF.out⟩
    · have HT : Hid (rpT up down = ((r1, r2), r3)) := Lib.hid (by rw [← heq]; exact HR.out)
      rw [HN.out] at hul hdl
      have HWH := Lib.hid (fun y => r01_Whole up (Nat.le_trans hul hS) y)
      have HV1 := Lib.hid (fun (h : wholeF up = true) y => r01_value up (Nat.le_trans hul hS) (whole_hg h) y)
      have HV2 := Lib.hid (fun y => r01_value down (Nat.le_trans hdl hS) (whole_hg hwd) y)
      have hb1 := vluF_bd up
      have hb2 := vluF_bd down
      unfold rpT at HT
      rw [if_neg hdn] at HT
      have qe : ((bst down).toList == []) = false := by rw [bst_list]; simpa using hdn
      clear hdn hwd heq hul hdl
      generalize vluF down = v2 at *
      generalize vluF up = v1 at *
      generalize bst down = DN at *
      obtain ⟨UP, hUP⟩ : ∃ t, bst up = t := ⟨_, rfl⟩
      rw [hUP] at HWH HV1 ⊢
      clear hUP
      by_cases hlt : (i : Int) < (B.size : Int)
      all_goals
        obtain ⟨n1, k1⟩ := v1
        obtain ⟨n2, k2⟩ := v2
        dsimp only at hb1 hb2 HT HV1 HV2
        obtain ⟨wu, hwu⟩ : ∃ t, wholeF up = t := ⟨_, rfl⟩
        rw [hwu] at HWH HV1 HT
        clear hwu
        cases wu
        · have HE : Hid (((0 : Int), (0 : Int)) = (r1, r2) ∧ (5 : Int) = r3) := Lib.hid (by have h := HT.out; rw [if_pos rfl] at h; exact Prod.mk.inj h)
          clear HT HV1 HV2 hb1 hb2
          go_wp2_with (go_at_call 96; refine (HWH.out _).mono ?_; rintro e x ⟨rfl, hx⟩; replace HU0 := Lib.hid (HU0.out.trans hx); replace B0 := Lib.hid (B0.out.up hx); clear hx; (try clear c0 c1 cf); obtain ⟨c0, c1⟩ := B0.out.two; have cf := B0.out.frozen)
          have HF := Lib.hid ((HU0.out.setCell (p := ⟨w.heap.size, 0, none⟩) (Nat.le_refl _) (.int .i64 0)).setCell (p := ⟨w.heap.size, 1, none⟩) (Nat.le_refl _) (.int .i64 0))
          refine bodyPost_ret (v := .tuple #[.agg #[.int .i64 0, .int .i64 0], .int .i64 5]) (by simp [results, Tryz.results70, go_sem, *]) rfl ?_
          obtain ⟨hh1, rfl⟩ := HE.out
          obtain ⟨rfl, rfl⟩ := Prod.mk.inj hh1
          exact ⟨rfl, HF.out⟩
        have HG : Hid (rparG (n1, k1) (n2, k2) = ((r1, r2), r3)) := Lib.hid (by have h := HT.out; rw [if_neg (by decide)] at h; exact h)
        replace HV1 := Lib.hid (HV1.out rfl)
        unfold rparG at HG
        clear HT
        cases k1
        · have HE : Hid (((0 : Int), (0 : Int)) = (r1, r2) ∧ (3 : Int) = r3) := Lib.hid (by have h := HG.out; rw [if_pos (.inl rfl)] at h; exact Prod.mk.inj h)
          clear HG hb1 hb2
          go_wp2_with (first
          | (go_at_call 96; refine (HWH.out _).mono ?_; rintro e x ⟨rfl, hx⟩; replace HU0 := Lib.hid (HU0.out.trans hx); replace B0 := Lib.hid (B0.out.up hx); clear hx; (try clear c0 c1 cf); obtain ⟨c0, c1⟩ := B0.out.two; have cf := B0.out.frozen)
          | (go_at_call 97; (first | (with_reducible refine (HV1.out _).mono ?_) | (with_reducible refine (HV2.out _).mono ?_)); rintro e x ⟨rfl, hx⟩; replace HU0 := Lib.hid (HU0.out.trans hx); replace B0 := Lib.hid (B0.out.up hx); clear hx; (try clear c0 c1 cf); obtain ⟨c0, c1⟩ := B0.out.two; have cf := B0.out.frozen)
          | (go_at_call 86; (first | (with_reducible refine (HS1.out _).mono ?_) | (with_reducible refine (HS2.out _).mono ?_)); rintro e x ⟨rfl, hx⟩; replace HU0 := Lib.hid (HU0.out.trans hx); replace B0 := Lib.hid (B0.out.up hx); clear hx; (try clear c0 c1 cf); obtain ⟨c0, c1⟩ := B0.out.two; have cf := B0.out.frozen)
          | (go_at_call 98; refine (HGC.out _).mono ?_; rintro e x ⟨rfl, hx⟩; replace HU0 := Lib.hid (HU0.out.trans hx); replace B0 := Lib.hid (B0.out.up hx); clear hx; (try clear c0 c1 cf); obtain ⟨c0, c1⟩ := B0.out.two; have cf := B0.out.frozen))
          have HF := Lib.hid ((HU0.out.setCell (p := ⟨w.heap.size, 0, none⟩) (Nat.le_refl _) (.int .i64 0)).setCell (p := ⟨w.heap.size, 1, none⟩) (Nat.le_refl _) (.int .i64 0))
          refine bodyPost_ret (v := .tuple #[.agg #[.int .i64 0, .int .i64 0], .int .i64 3]) (by simp [results, Tryz.results70, go_sem, *]) rfl ?_
          obtain ⟨hh1, rfl⟩ := HE.out
          obtain ⟨rfl, rfl⟩ := Prod.mk.inj hh1
          exact ⟨rfl, HF.out⟩
        cases k2
        · have HE : Hid (((0 : Int), (0 : Int)) = (r1, r2) ∧ (3 : Int) = r3) := Lib.hid (by have h := HG.out; rw [if_pos (.inr rfl)] at h; exact Prod.mk.inj h)
          clear HG hb1 hb2
          go_wp2_with (first
          | (go_at_call 96; refine (HWH.out _).mono ?_; rintro e x ⟨rfl, hx⟩; replace HU0 := Lib.hid (HU0.out.trans hx); replace B0 := Lib.hid (B0.out.up hx); clear hx; (try clear c0 c1 cf); obtain ⟨c0, c1⟩ := B0.out.two; have cf := B0.out.frozen)
          | (go_at_call 97; (first | (with_reducible refine (HV1.out _).mono ?_) | (with_reducible refine (HV2.out _).mono ?_)); rintro e x ⟨rfl, hx⟩; replace HU0 := Lib.hid (HU0.out.trans hx); replace B0 := Lib.hid (B0.out.up hx); clear hx; (try clear c0 c1 cf); obtain ⟨c0, c1⟩ := B0.out.two; have cf := B0.out.frozen)
          | (go_at_call 86; (first | (with_reducible refine (HS1.out _).mono ?_) | (with_reducible refine (HS2.out _).mono ?_)); rintro e x ⟨rfl, hx⟩; replace HU0 := Lib.hid (HU0.out.trans hx); replace B0 := Lib.hid (B0.out.up hx); clear hx; (try clear c0 c1 cf); obtain ⟨c0, c1⟩ := B0.out.two; have cf := B0.out.frozen)
          | (go_at_call 98; refine (HGC.out _).mono ?_; rintro e x ⟨rfl, hx⟩; replace HU0 := Lib.hid (HU0.out.trans hx); replace B0 := Lib.hid (B0.out.up hx); clear hx; (try clear c0 c1 cf); obtain ⟨c0, c1⟩ := B0.out.two; have cf := B0.out.frozen))
          have HF := Lib.hid ((HU0.out.setCell (p := ⟨w.heap.size, 0, none⟩) (Nat.le_refl _) (.int .i64 0)).setCell (p := ⟨w.heap.size, 1, none⟩) (Nat.le_refl _) (.int .i64 0))
          refine bodyPost_ret (v := .tuple #[.agg #[.int .i64 0, .int .i64 0], .int .i64 3]) (by simp [results, Tryz.results70, go_sem, *]) rfl ?_
          obtain ⟨hh1, rfl⟩ := HE.out
          obtain ⟨rfl, rfl⟩ := Prod.mk.inj hh1
          exact ⟨rfl, HF.out⟩
        have HS1 := Lib.hid (fun y => r01_size n1 (mag n1) rfl ⟨by omega, by omega⟩ y)
        have HS2 := Lib.hid (fun y => r01_size n2 (mag n2) rfl ⟨by omega, by omega⟩ y)
        have m1 := mag_bd hb1.1 hb1.2
        have m2 := mag_bd hb2.1 hb2.2
        have HGC := Lib.hid (fun y => r01_gcd' (mag n1) (mag n2) (Int.gcd n1 n2) (mag_gcd n1 n2) m1.1 m1.2 m2.1 m2.2 y)
        have HG2 : Hid ((if (Int.gcd n1 n2 : Int) ≠ 1 then ((0, 0), 5) else ((n1, n2), 0)) = ((r1, r2), r3)) := Lib.hid (by
          have h := HG.out
          rw [if_neg (by simp)] at h
          have e : ((Int.gcd n1 n2 : Int) ≠ 1) = (Int.gcd n1 n2 ≠ 1) := propext ⟨fun h e => h (by omega), fun h e => h (by omega)⟩
          simp only [e]
          exact h)
        clear HG m1 m2 hb1 hb2
        generalize (Int.gcd n1 n2 : Int) = g at *
        generalize mag n1 = m1 at *
        generalize mag n2 = m2 at *
        by_cases hg : g = 1
        · have HE : Hid ((n1, n2) = (r1, r2) ∧ (0 : Int) = r3) := Lib.hid (by have h := HG2.out; rw [if_neg (by simpa using hg)] at h; exact Prod.mk.inj h)
          subst hg
          clear HG2
          go_wp2_with (first
          | (go_at_call 96; refine (HWH.out _).mono ?_; rintro e x ⟨rfl, hx⟩; replace HU0 := Lib.hid (HU0.out.trans hx); replace B0 := Lib.hid (B0.out.up hx); clear hx; (try clear c0 c1 cf); obtain ⟨c0, c1⟩ := B0.out.two; have cf := B0.out.frozen)
          | (go_at_call 97; (first | (with_reducible refine (HV1.out _).mono ?_) | (with_reducible refine (HV2.out _).mono ?_)); rintro e x ⟨rfl, hx⟩; replace HU0 := Lib.hid (HU0.out.trans hx); replace B0 := Lib.hid (B0.out.up hx); clear hx; (try clear c0 c1 cf); obtain ⟨c0, c1⟩ := B0.out.two; have cf := B0.out.frozen)
          | (go_at_call 86; (first | (with_reducible refine (HS1.out _).mono ?_) | (with_reducible refine (HS2.out _).mono ?_)); rintro e x ⟨rfl, hx⟩; replace HU0 := Lib.hid (HU0.out.trans hx); replace B0 := Lib.hid (B0.out.up hx); clear hx; (try clear c0 c1 cf); obtain ⟨c0, c1⟩ := B0.out.two; have cf := B0.out.frozen)
          | (go_at_call 98; refine (HGC.out _).mono ?_; rintro e x ⟨rfl, hx⟩; replace HU0 := Lib.hid (HU0.out.trans hx); replace B0 := Lib.hid (B0.out.up hx); clear hx; (try clear c0 c1 cf); obtain ⟨c0, c1⟩ := B0.out.two; have cf := B0.out.frozen))
          have HF := Lib.hid ((HU0.out.setCell (p := ⟨w.heap.size, 0, none⟩) (Nat.le_refl _) (.int .i64 n1)).setCell (p := ⟨w.heap.size, 1, none⟩) (Nat.le_refl _) (.int .i64 n2))
          refine bodyPost_ret (v := .tuple #[.agg #[.int .i64 n1, .int .i64 n2], .int .i64 0]) (by simp [results, Tryz.results70, go_sem, *]) rfl ?_
          obtain ⟨hh1, rfl⟩ := HE.out
          obtain ⟨rfl, rfl⟩ := Prod.mk.inj hh1
          exact ⟨rfl, HF.out⟩
        · have HE : Hid (((0 : Int), (0 : Int)) = (r1, r2) ∧ (5 : Int) = r3) := Lib.hid (by have h := HG2.out; rw [if_pos (by simpa using hg)] at h; exact Prod.mk.inj h)
          have hgb : (g == 1) = false := by simpa using hg
          have hgc : (g != 1) = true := by simpa using hg
          clear HG2 hg
          go_wp2_with (first
          | (go_at_call 96; refine (HWH.out _).mono ?_; rintro e x ⟨rfl, hx⟩; replace HU0 := Lib.hid (HU0.out.trans hx); replace B0 := Lib.hid (B0.out.up hx); clear hx; (try clear c0 c1 cf); obtain ⟨c0, c1⟩ := B0.out.two; have cf := B0.out.frozen)
          | (go_at_call 97; (first | (with_reducible refine (HV1.out _).mono ?_) | (with_reducible refine (HV2.out _).mono ?_)); rintro e x ⟨rfl, hx⟩; replace HU0 := Lib.hid (HU0.out.trans hx); replace B0 := Lib.hid (B0.out.up hx); clear hx; (try clear c0 c1 cf); obtain ⟨c0, c1⟩ := B0.out.two; have cf := B0.out.frozen)
          | (go_at_call 86; (first | (with_reducible refine (HS1.out _).mono ?_) | (with_reducible refine (HS2.out _).mono ?_)); rintro e x ⟨rfl, hx⟩; replace HU0 := Lib.hid (HU0.out.trans hx); replace B0 := Lib.hid (B0.out.up hx); clear hx; (try clear c0 c1 cf); obtain ⟨c0, c1⟩ := B0.out.two; have cf := B0.out.frozen)
          | (go_at_call 98; refine (HGC.out _).mono ?_; rintro e x ⟨rfl, hx⟩; replace HU0 := Lib.hid (HU0.out.trans hx); replace B0 := Lib.hid (B0.out.up hx); clear hx; (try clear c0 c1 cf); obtain ⟨c0, c1⟩ := B0.out.two; have cf := B0.out.frozen))
          have HF := Lib.hid ((HU0.out.setCell (p := ⟨w.heap.size, 0, none⟩) (Nat.le_refl _) (.int .i64 0)).setCell (p := ⟨w.heap.size, 1, none⟩) (Nat.le_refl _) (.int .i64 0))
          refine bodyPost_ret (v := .tuple #[.agg #[.int .i64 0, .int .i64 0], .int .i64 5]) (by simp [results, Tryz.results70, go_sem, *]) rfl ?_
          obtain ⟨hh1, rfl⟩ := HE.out
          obtain ⟨rfl, rfl⟩ := Prod.mk.inj hh1
          exact ⟨rfl, HF.out⟩
end Go.Proofs.YtlglfdhiopnglaaGreatDoor
