/-
  The reference 47, reading: Instr, opcodes of the class 'none of them'. Printed by mkIsIn.py.
-/
import Derived.Test.YtlglfdhiopnglaaGreatDoorIsIn
namespace Go.Proofs.YtlglfdhiopnglaaGreatDoor
open Go.ChangeShapes Go.WideShapes Go.ChangeAt Go.RowKit
set_option linter.unusedVariables false
set_option linter.unusedSimpArgs false
set_option maxRecDepth 100000

set_option maxHeartbeats 16000000 in
theorem r47_Instr_none (S : List UInt8) (hS : S.length ≤ 10000) (w : World) (hf : fndL ((cutL 32 false S).getD 0 []) 17 0 = none) :
    Calls Tryz.prog 40 #[.string (bst S)] w fun e w' => e = .returned (.tuple #[insV (riF S).1, .bool (riF S).2]) ∧ Up w w' := by
  obtain ⟨R, hR⟩ : ∃ R, riF S = R := ⟨_, rfl⟩
  rw [hR]
  unfold riF riA at hR
  rw [hf] at hR
  have HW := Lib.hid (fun y => r47_words S hS y)
  obtain ⟨hl1, hl2⟩ := cutL_sz 32 S
  have hne := cutL_ne 32 false S
  generalize cutL 32 false S = L at *
  have HF0 := Lib.hid hf
  clear hf
  have HL2 : Hid (∀ t ∈ L, t.length ≤ 10000) := Lib.hid (fun t ht => Nat.le_trans (hl2 t ht) hS)
  have hLl : L.length ≤ 20000 := by omega
  have hL0 : 0 < L.length := by cases L; exact absurd rfl hne; simp
  have HP := Lib.hid (fun T (h : T.length ≤ 10000) => r01_Parse T h)
  obtain ⟨n, hn⟩ : ∃ n, L.length = n := ⟨_, rfl⟩
  rw [hn] at hLl hL0
  have hL0I : (0 : Int) < n := by omega
  have hLlI : (n : Int) ≤ 20000 := by omega
  have HN := Lib.hid hn
  have HR := Lib.hid hR
  clear hR hl1 hl2 hne hn hS
  have HU : Hid (Up w (w.alloc (.cells #[.int .i64 0, .int .i64 0, .int .i64 0, .int .i64 0, .int .i64 0, .int .i64 0, .int .i64 0, .int .i64 0, .int .i64 0, .int .i64 0, .int .i64 0] 42))) := Lib.hid ((Up.refl w).alloc _)
  have B0 : Hid (BoxC (w.alloc (.cells #[.int .i64 0, .int .i64 0, .int .i64 0, .int .i64 0, .int .i64 0, .int .i64 0, .int .i64 0, .int .i64 0, .int .i64 0, .int .i64 0, .int .i64 0] 42)) w.heap.size 42 (insCs i0)) := Lib.hid (BoxC.new w _ _)
  go_enter Tryz.func40, Tryz.ntmps40
  go_upto_region 3 with (go_at_call 67; refine (HW.out _).mono ?_; rintro e z ⟨v, rfl, hx, hst⟩; replace HU := Lib.hid (HU.out.trans hx); replace B0 := Lib.hid (B0.out.up hx); have HST := Lib.hid hst; clear hx hst)
  have HSB : Hid (StrsB z.heap.size z v L) := Lib.hid ⟨HST.out, fun b hb => by
    obtain ⟨a, c, e, _, _⟩ := HST.out
    subst e
    obtain ⟨g, o, ha, hg, _⟩ := HST.out.get 0 (by rw [HN.out]; exact hL0)
    subst ha
    have : g = b := by simpa [blk] using hb
    omega⟩
  obtain ⟨a, c, hv, hc⟩ := HSB.out.shape
  rw [HN.out] at hv hc
  subst hv
  refine wp_gen (F := fun u => Up w u ∧ BoxC u w.heap.size 42 (insCs i0) ∧ BoxC u z.heap.size 42 (insCs (-1, 0, 0, 0, (0, 0), y0)) ∧ StrsB z.heap.size u (.slice a n c) L ∧ w.heap.size < z.heap.size) ⟨HU.out.alloc _, B0.out.up ((Up.refl z).alloc _), BoxC.new z _ _, HSB.out.up ((Up.refl z).alloc _), B0.out.lt⟩ ?_
  rintro u ⟨hu, hb0, hbx, hsb, hgx⟩
  replace HU := Lib.hid hu
  replace B0 := Lib.hid hb0
  have HX := Lib.hid hbx
  clear HST HSB
  have HST := Lib.hid hsb
  clear hu hb0 hbx hsb
  generalize z.heap.size = gx at *
  clear z
  go_wp2
  go_loopw [6] (fun iv wr => ∃ (k : Nat) (o : Int), iv = .int .i64 k ∧ k ≤ 17 ∧ OpAt (L.getD 0 []) k o ∧ Up w wr ∧ BoxC wr w.heap.size 42 (insCs i0) ∧ BoxC wr gx 42 (insCs (o, 0, 0, 0, (0, 0), y0)) ∧ StrsB gx wr (.slice a n c) L) (fun iv _ => 17 - (intOf iv).toNat)
  case atStart => exact ⟨0, -1, rfl, by omega, .inl ⟨rfl, fun j hj => by omega⟩, HU.out, B0.out, HX.out, HST.out⟩
  case round =>
    rename World => wr
    obtain ⟨k, o, rfl, hk, hop, hu, hb0, hbx, hsb⟩ := hrel
    replace HU := Lib.hid hu
    replace B0 := Lib.hid hb0
    replace HX := Lib.hid hbx
    replace HST := Lib.hid hsb
    have HO := Lib.hid hop
    clear hu hb0 hbx hsb hop
    obtain ⟨g0, o0, rfl, hg0, hc0⟩ := HST.out.1.get 0 (by rw [HN.out]; exact hL0)
    rw [Nat.add_zero] at hc0
    have hx0 := HX.out.i0
    have hxf := HX.out.frozen
    dsimp only at hx0
    by_cases hlt : k < 17
    · have hltI : (k : Int) ≤ 16 := by omega
      have HMN := Lib.hid (fun y => r47_Mnemonic k hlt y)
      obtain ⟨q, hq⟩ : ∃ q, ((mnS k).toList == (bst (L.getD 0 [])).toList) = q := ⟨_, rfl⟩
      have HQ : Hid (decide ((mnS k).data.toList = L.getD 0 []) = q) := Lib.hid (by rw [← hq, beq_bytes])
      generalize bst (L.getD 0 []) = W0 at *
      cases q
      · have HO2 : Hid (OpAt (L.getD 0 []) (k + 1) o) := Lib.hid (HO.out.miss (by simpa using HQ.out))
        go_upto_region 6 with fail
        refine wp_region_ext (by kernel_rfl) (by kernel_rfl) ?_
        repeat (go_big_quiet_step (first | (go_at_call 15; exact Calls.ext_of (HMN.out _))))
        refine wpQuiet_nil ?_
        intro y hy
        go_wp2
        try go_roundw
        case rel => exact ⟨k + 1, o, by go_num, by omega, HO2.out, HU.out.trans hy, B0.out.up hy, HX.out.up hy, HST.out.up hy⟩
        case measure => simp [intOf]; omega
      · have HO2 : Hid (OpAt (L.getD 0 []) (k + 1) k) := Lib.hid (OpAt.hit (by simpa using HQ.out))
        go_upto_region 6 with fail
        refine wp_region_ext (by kernel_rfl) (by kernel_rfl) ?_
        repeat (go_big_quiet_step (first | (go_at_call 15; exact Calls.ext_of (HMN.out _))))
        refine wpQuiet_nil ?_
        intro y hy
        replace HU := Lib.hid (HU.out.trans hy)
        replace B0 := Lib.hid (B0.out.up hy)
        replace HX := Lib.hid (HX.out.up hy)
        replace HST := Lib.hid (HST.out.up hy)
        clear hx0 hxf hy hc0 hg0
        have hx0 := HX.out.i0
        have hxf := HX.out.frozen
        dsimp only at hx0
        go_wp2
        try go_roundw
        case rel => exact ⟨k + 1, k, by go_num, by omega, HO2.out, HU.out.setCell (Nat.le_of_lt hgx) _, box_skip B0.out _ _ (by show gx ≠ _; omega), HX.out.s0 _, HST.out.set _ _⟩
        case measure => simp [intOf]; omega
    · obtain rfl : k = 17 := by omega
      clear hc0 hg0 hlt
      rcases HO.out.fin with ⟨rfl, hf⟩ | ⟨op, hop, rfl, hf⟩
      rotate_left
      · have h := HF0.out
        rw [hf] at h
        cases h
      have x0 := hx0
      clear hx0
      have HE : Hid (R = (i0, false)) := Lib.hid (by rw [← HR.out])
      have bf := B0.out.frozen
      obtain ⟨b0, b1, b2, b3, b4, b5, b6, b7, b8, b9, b10⟩ := boxAll B0.out
      have s0 := box_zero B0.out 0 (by decide)
      have s1 := box_zero B0.out 1 (by decide)
      have s2 := box_zero B0.out 2 (by decide)
      have s3 := box_zero B0.out 3 (by decide)
      have s4 := box_zero B0.out 4 (by decide)
      have s5 := box_zero B0.out 5 (by decide)
      have s6 := box_zero B0.out 6 (by decide)
      have s7 := box_zero B0.out 7 (by decide)
      have s8 := box_zero B0.out 8 (by decide)
      have s9 := box_zero B0.out 9 (by decide)
      have s10 := box_zero B0.out 10 (by decide)
      go_wp2
      refine bodyPost_ret (v := .tuple #[.agg #[.int .i64 0, .int .i64 0, .int .i64 0, .int .i64 0, .int .i64 0, .int .i64 0, .int .i64 0, .int .i64 0, .int .i64 0, .int .i64 0, .int .i64 0], .bool false]) (by simp [results, Tryz.results40, go_sem, b0, b1, b2, b3, b4, b5, b6, b7, b8, b9, b10]) rfl ?_
      exact ⟨by rw [HE.out]; (try rfl), HU.out⟩
end Go.Proofs.YtlglfdhiopnglaaGreatDoor
