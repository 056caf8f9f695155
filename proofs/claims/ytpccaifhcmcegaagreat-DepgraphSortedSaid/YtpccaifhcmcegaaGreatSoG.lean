/-
  The reference 14: part, Validate. Printed by mkSo.py.
-/
import Derived.Test.YtpccaifhcmcegaaGreatSoC
import Derived.Test.YtpccaifhcmcegaaGreatHw

namespace Go.Proofs.YtpccaifhcmcegaaGreat
set_option linter.unusedSimpArgs false
open Go.ChangeShapes Go.WideShapes Go.ChangeAt Go.RowKit
set_option linter.unusedVariables false
set_option maxRecDepth 100000

/-- What the check of a node grants. -/
def NodeP (x : Ex) : Prop := PlainP (opE x) (ixE x) ∧ ((argE x).length : Int) = argsN (opE x)
set_option maxHeartbeats 16000000 in
theorem part_step (N : Nat) (ih : ∀ (e : Ex) (v : Value) (w : World) (hv : ExAt N w v e), Calls Tryz.prog 77 #[v] w fun e' w' => ErrQ (∀ x ∈ nodes e, NodeP x) w e' w')
    (e : Ex) (v : Value) (w : World) (hv : ExAt (N + 1) w v e) : Calls Tryz.prog 77 #[v] w fun e' w' => ErrQ (∀ x ∈ nodes e, NodeP x) w e' w' := by
  have HIH := Lib.hid ih
  clear ih
  have HC1 := Lib.hid (fun y (hy : Up w y) => r14_plain N e v y (hv.up hy))
  have HC2 := Lib.hid (fun y (hy : Up w y) => r14_named N e v y (hv.up hy))
  have HC3 := Lib.hid (fun y (hy : Up w y) => r14_ranked N e v y (hv.up hy))
  have HC4 := Lib.hid (fun y (hy : Up w y) => r14_typed N e v y (hv.up hy))
  have HC5 := Lib.hid (fun ht y (hy : Up w y) => r14_formed N e v y (hv.up hy) ht)
  obtain ⟨op, nm, A, d, t0, t1, t2, t3, t4, K, la, lc, xa, xc, ra, rc, ms, ix, args, rfl, rfl, hnm, hL, hX, hR⟩ := hv.open
  obtain ⟨ln, hln⟩ : ∃ q, ms.length = q := ⟨_, rfl⟩
  obtain ⟨xn, hxn⟩ : ∃ q, ix.length = q := ⟨_, rfl⟩
  obtain ⟨rn, hrn⟩ : ∃ q, args.length = q := ⟨_, rfl⟩
  have hlnI : (ln : Int) ≤ 140737488351232 := by have := hL.bytes; omega
  have hxnI : (xn : Int) ≤ 140737488351232 := by have := hX.bytes; omega
  have hrnI : (rn : Int) ≤ 140737488351232 := by have := hR.bytes; omega
  rw [hln] at hL
  rw [hxn] at hX
  rw [hrn] at hR
  rw [hln, hxn, hrn]
  have HL := Lib.hid hL
  have HX := Lib.hid hX
  have HR := Lib.hid hR
  have HLN := Lib.hid hln
  have HXN := Lib.hid hxn
  have HRN := Lib.hid hrn
  have HNM := Lib.hid hnm
  have HU := Lib.hid ((Up.refl w).alloc (.cells #[.int .i64 op, .string nm, .int .i64 A, .int .i64 d, .int .i64 t0, .int .i64 t1, .int .i64 t2, .int .i64 t3, .int .i64 t4, .int .i64 K, .slice la ln lc, .slice xa xn xc, .slice ra rn rc] 48))
  have HB := Lib.hid (BoxC.new w 48 #[.int .i64 op, .string nm, .int .i64 A, .int .i64 d, .int .i64 t0, .int .i64 t1, .int .i64 t2, .int .i64 t3, .int .i64 t4, .int .i64 K, .slice la ln lc, .slice xa xn xc, .slice ra rn rc])
  clear hL hX hR hln hxn hrn hnm

  have HNO : Hid (∀ (h1 : NodeP (.mk op nm A d (t0, t1, t2, t3, t4) (K, ms) ix args)) (h2 : ∀ x ∈ nodess args, NodeP x), ∀ x ∈ nodes (.mk op nm A d (t0, t1, t2, t3, t4) (K, ms) ix args), NodeP x) := Lib.hid (fun h1 h2 x hx => by
    rw [nodes] at hx
    rcases List.mem_cons.1 hx with rfl | hx
    · exact h1
    · exact h2 x hx)
  rw [HLN.out, HXN.out, HRN.out] at HC1 HC2 HC3 HC4 HC5
  generalize (Ex.mk op nm A d (t0, t1, t2, t3, t4) (K, ms) ix args) = E at *
  have HA0 : Hid (Up (w.alloc (.cells #[.int .i64 op, .string nm, .int .i64 A, .int .i64 d, .int .i64 t0, .int .i64 t1, .int .i64 t2, .int .i64 t3, .int .i64 t4, .int .i64 K, .slice la ln lc, .slice xa xn xc, .slice ra rn rc] 48)) (w.alloc (.cells #[.int .i64 op, .string nm, .int .i64 A, .int .i64 d, .int .i64 t0, .int .i64 t1, .int .i64 t2, .int .i64 t3, .int .i64 t4, .int .i64 K, .slice la ln lc, .slice xa xn xc, .slice ra rn rc] 48))) := Lib.hid (Up.refl _)
  have HLD := Lib.hid (fun y (hy : Up (w.alloc (.cells #[.int .i64 op, .string nm, .int .i64 A, .int .i64 d, .int .i64 t0, .int .i64 t1, .int .i64 t2, .int .i64 t3, .int .i64 t4, .int .i64 K, .slice la ln lc, .slice xa xn xc, .slice ra rn rc] 48)) y) => ex_load (w := w) (cs := #[.int .i64 op, .string nm, .int .i64 A, .int .i64 d, .int .i64 t0, .int .i64 t1, .int .i64 t2, .int .i64 t3, .int .i64 t4, .int .i64 K, .slice la ln lc, .slice xa xn xc, .slice ra rn rc]) rfl hy)
  have HLD0 := Lib.hid (HLD.out _ HA0.out)
  clear hv
  go_enter Tryz.func77, Tryz.ntmps77
  go_wp2_with (refine st_load HLD0.out (by rfl) ?_)
  refine (HC1.out _ HU.out).mono ?_
  rintro e' W1 ⟨b, rfl, hy, hp⟩
  have HU1 := Lib.hid (HU.out.trans hy)
  have HA1 := Lib.hid hy
  have HLD1 := Lib.hid (HLD.out _ hy)
  have HP1 := Lib.hid hp
  clear hy hp HLD0
  cases b
  · go_wp2
    go_ret
    exact ⟨5, rfl, HU1.out, fun h => absurd h (by decide)⟩
  replace HP1 := Lib.hid (HP1.out rfl)
  go_wp2_with (refine st_load HLD1.out (by rfl) ?_)
  refine (HC2.out _ HU1.out).mono ?_
  rintro e' W2 ⟨b, rfl, hy, -⟩
  have HU2 := Lib.hid (HU1.out.trans hy)
  have HA2 := Lib.hid (HA1.out.trans hy)
  have HLD2 := Lib.hid (HLD.out _ HA2.out)
  clear hy HLD1
  cases b
  · go_wp2
    go_ret
    exact ⟨7, rfl, HU2.out, fun h => absurd h (by decide)⟩
  go_wp2_with (refine st_load HLD2.out (by rfl) ?_)
  refine (HC3.out _ HU2.out).mono ?_
  rintro e' W3 ⟨b, rfl, hy, hp⟩
  have HU3 := Lib.hid (HU2.out.trans hy)
  have HA3 := Lib.hid (HA2.out.trans hy)
  have HLD3 := Lib.hid (HLD.out _ HA3.out)
  have HP3 := Lib.hid hp
  clear hy hp HLD2
  cases b
  · go_wp2
    go_ret
    exact ⟨11, rfl, HU3.out, fun h => absurd h (by decide)⟩
  replace HP3 := Lib.hid (HP3.out rfl)
  go_wp2_with (refine st_load HLD3.out (by rfl) ?_)
  refine (HC4.out _ HU3.out).mono ?_
  rintro e' W4 ⟨b, rfl, hy, hp⟩
  have HU4 := Lib.hid (HU3.out.trans hy)
  have HA4 := Lib.hid (HA3.out.trans hy)
  have HLD4 := Lib.hid (HLD.out _ HA4.out)
  have HP4 := Lib.hid hp
  clear hy hp HLD3
  cases b
  · go_wp2
    go_ret
    exact ⟨10, rfl, HU4.out, fun h => absurd h (by decide)⟩
  replace HC5 := Lib.hid (HC5.out (HP4.out rfl))
  go_wp2_with (refine st_load HLD4.out (by rfl) ?_)
  refine (HC5.out _ HU4.out).mono ?_
  rintro e' W5 ⟨b, rfl, hy, -⟩
  have HU5 := Lib.hid (HU4.out.trans hy)
  have HA5 := Lib.hid (HA4.out.trans hy)
  clear hy HLD4
  cases b
  · go_wp2
    go_ret
    exact ⟨1, rfl, HU5.out, fun h => absurd h (by decide)⟩
  have HBV := Lib.hid (HB.out.up HA5.out)
  replace HNO := Lib.hid (HNO.out ⟨HP1.out, HP3.out⟩)
  clear HC1 HC2 HC3 HC4 HC5 HU1 HU2 HU3 HU4 HA0 HA1 HA2 HA3 HA4 HA5 HLD HP1 HP3 HP4 HU HB
  go_wp2
  go_loopw [3] (fun iv y => ∃ i : Nat, iv = .int .i64 i ∧ i ≤ rn ∧ (∀ x ∈ nodess (args.take i), NodeP x) ∧ Up w y ∧ BoxC y w.heap.size 48 #[.int .i64 op, .string nm, .int .i64 A, .int .i64 d, .int .i64 t0, .int .i64 t1, .int .i64 t2, .int .i64 t3, .int .i64 t4, .int .i64 K, .slice la ln lc, .slice xa xn xc, .slice ra rn rc]) (fun iv _ => rn - (intOf iv).toNat)
  case atStart => exact ⟨0, rfl, Nat.zero_le _, by simp [nodess], HU5.out, HBV.out⟩
  case round =>
    rename World => y
    obtain ⟨i, rfl, hi, hQ, hup, hb⟩ := hrel
    have HUY := Lib.hid hup
    have HBY := Lib.hid hb
    have HQ := Lib.hid hQ
    have b12 : y.cell? ⟨w.heap.size, 12, none⟩ = some (.slice ra rn rc) := cell_of_row _ _ _ _ _ _ hb
    have bs := hb.lt
    clear hup hb hQ HU5 HBV
    by_cases hlt : i < rn
    · have hltI : (i : Int) < rn := by omega
      have hi1 : i < args.length := by rw [HRN.out]; exact hlt
      obtain ⟨ga, oa, cs, rfl, hga, hca, hra⟩ := HR.out.row (exR_k N) i hi1
      have gas := Nat.lt_of_lt_of_le hga HUY.out.size
      have HLDA := Lib.hid (run_ex hca.1 (hra y HUY.out))
      have HNT := Lib.hid (nodess_take hi1)
      have HCL := Lib.hid (HIH.out args[i] (.agg cs) y (hca.ex.up HUY.out))
      clear hra hca hga
      go_wp2_with (refine st_load HLDA.out (by rfl) ?_)
      refine HCL.out.mono ?_
      rintro e' z ⟨f, rfl, hz, hf⟩
      have HUZ := Lib.hid (HUY.out.trans hz)
      have HBZ := Lib.hid (HBY.out.up hz)
      have HF := Lib.hid hf
      clear hz hf HLDA HCL b12 bs gas
      by_cases hf0 : f = 0
      · subst hf0
        have HQ2 : Hid (∀ x ∈ nodess (args.take (i + 1)), NodeP x) := Lib.hid (fun x hx => by
          rw [HNT.out] at hx
          rcases List.mem_append.1 hx with hx | hx
          · exact HQ.out x hx
          · exact HF.out rfl x hx)
        go_wp2
        go_roundw
        case rel => exact ⟨i + 1, by go_num, by omega, HQ2.out, HUZ.out, HBZ.out⟩
        case measure => simp [intOf]; omega
      · have e1 : (f == 0) = false := by simpa using hf0
        have e2 : (f != 0) = true := by simpa using hf0
        have HF0 := Lib.hid hf0
        clear hf0
        go_wp2
        go_ret
        exact ⟨f, rfl, HUZ.out, fun h => absurd h HF0.out⟩
    · have hltI : ¬ (i : Int) < rn := by omega
      have HQ2 : Hid (∀ x ∈ nodess args, NodeP x) := Lib.hid (fun x hx => HQ.out x (by rw [List.take_of_length_le (by rw [HRN.out]; omega)]; exact hx))
      go_wp2
      go_ret
      exact ⟨0, rfl, HUY.out, fun _ => HNO.out HQ2.out⟩
theorem r14_part (n : Nat) : ∀ (e : Ex) (v : Value) (w : World) (hv : ExAt n w v e), Calls Tryz.prog 77 #[v] w fun e' w' => ErrQ (∀ x ∈ nodes e, NodeP x) w e' w' := by
  induction n with
  | zero => intro e v w hv; obtain ⟨_, _, h⟩ := hv; exact h.elim
  | succ N ih => exact fun e v w hv => part_step N ih e v w hv
set_option maxHeartbeats 8000000 in
theorem r14_Validate (N : Nat) (e : Ex) (v : Value) (w : World) (hv : ExAt N w v e) (ht : tot e ≤ 1500) : Calls Tryz.prog 62 #[v] w fun e' w' => ErrQ (∀ x ∈ nodes e, NodeP x) w e' w' := by
  obtain ⟨cs, rfl, hs⟩ := hv.cs
  have HU := Lib.hid ((Up.refl w).alloc (.cells cs 48))
  have HLD := Lib.hid (fun y (hy : Up (w.alloc (.cells cs 48)) y) => ex_load (w := w) hs hy)
  have HC1 := Lib.hid (fun y (hy : Up w y) => r14_Depth N e (.agg cs) y (hv.up hy))
  have HC2 := Lib.hid (fun y (hy : Up w y) => r14_Size N e (.agg cs) y (hv.up hy) ht)
  have HC3 := Lib.hid (fun y (hy : Up w y) => r14_part N e (.agg cs) y (hv.up hy))
  have HLD0 := Lib.hid (HLD.out _ (Up.refl _))
  clear hv hs ht
  go_enter Tryz.func62, Tryz.ntmps62
  go_wp2_with (refine st_load HLD0.out (by rfl) ?_)
  refine (HC1.out _ HU.out).mono ?_
  rintro e' W1 ⟨r, rfl, hy, hr⟩
  have HU1 := Lib.hid (HU.out.trans hy)
  have HA1 := Lib.hid hy
  have HLD1 := Lib.hid (HLD.out _ hy)
  clear hy HLD0
  by_cases h40 : 40 < r
  · have h40I : (40 : Int) < r := by omega
    go_wp2
    go_ret
    exact ⟨13, rfl, HU1.out, fun h => absurd h (by decide)⟩
  have h40I : ¬ (40 : Int) < r := by omega
  go_wp2_with (refine st_load HLD1.out (by rfl) ?_)
  refine (HC2.out _ HU1.out).mono ?_
  rintro e' W2 ⟨r2, rfl, hy, hr2⟩
  have HU2 := Lib.hid (HU1.out.trans hy)
  have HA2 := Lib.hid (HA1.out.trans hy)
  have HLD2 := Lib.hid (HLD.out _ HA2.out)
  have h20I : ¬ (2000 : Int) < r2 := by omega
  clear hy HLD1 hr hr2 h40 h40I
  go_wp2_with (refine st_load HLD2.out (by rfl) ?_)
  refine (HC3.out _ HU2.out).mono ?_
  rintro e' W3 ⟨f, rfl, hy, hf⟩
  have HU3 := Lib.hid (HU2.out.trans hy)
  have HF := Lib.hid hf
  clear hy hf
  go_wp2
  go_ret
  exact ⟨f, rfl, HU3.out, HF.out⟩
end Go.Proofs.YtpccaifhcmcegaaGreat
