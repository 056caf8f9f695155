/-
  The reference 47, reading: Instr, opcodes of the class 'v10'. Printed by mkIsIn.py.
-/
import Derived.Test.YtlglfdhiopnglaaGreatDoorIsIn
namespace Go.Proofs.YtlglfdhiopnglaaGreatDoor
open Go.ChangeShapes Go.WideShapes Go.ChangeAt Go.RowKit
set_option linter.unusedVariables false
set_option linter.unusedSimpArgs false
set_option maxRecDepth 100000

set_option maxHeartbeats 16000000 in
theorem r47_Instr_v10 (S : List UInt8) (hS : S.length ≤ 10000) (w : World) (op : Nat) (hop : op < 17) (q10 : op = 10) (hf : fndL ((cutL 32 false S).getD 0 []) 17 0 = some op) :
    Calls Tryz.prog 40 #[.string (bst S)] w fun e w' => e = .returned (.tuple #[insV (riF S).1, .bool (riF S).2]) ∧ Up w w' := by
  obtain ⟨R, hR⟩ : ∃ R, riF S = R := ⟨_, rfl⟩
  rw [hR]
  unfold riF riA at hR
  rw [hf] at hR
  dsimp only at hR
  have HW := Lib.hid (fun y => r47_words S hS y)
  obtain ⟨hl1, hl2⟩ := cutL_sz 32 S
  have hne := cutL_ne 32 false S
  generalize cutL 32 false S = L at *
  have HF0 := Lib.hid hf
  clear hf
  have HL2 : Hid (∀ t ∈ L, t.length ≤ 10000) := Lib.hid (fun t ht => Nat.le_trans (hl2 t ht) hS)
  have hLl : L.length ≤ 20000 := by omega
  have hL0 : 0 < L.length := by cases L; exact absurd rfl hne; simp
  have HP := Lib.hid (fun T (h : T.length ≤ 10000) => r01_Parse T h)
  obtain ⟨n, hn⟩ : ∃ n, L.length = n := ⟨_, rfl⟩
  rw [hn] at hLl hL0
  have hL0I : (0 : Int) < n := by omega
  have hLlI : (n : Int) ≤ 20000 := by omega
  have HN := Lib.hid hn
  have HR := Lib.hid hR
  clear hR hl1 hl2 hne hn hS
  have HU : Hid (Up w (w.alloc (.cells #[.int .i64 0, .int .i64 0, .int .i64 0, .int .i64 0, .int .i64 0, .int .i64 0, .int .i64 0, .int .i64 0, .int .i64 0, .int .i64 0, .int .i64 0] 42))) := Lib.hid ((Up.refl w).alloc _)
  have B0 : Hid (BoxC (w.alloc (.cells #[.int .i64 0, .int .i64 0, .int .i64 0, .int .i64 0, .int .i64 0, .int .i64 0, .int .i64 0, .int .i64 0, .int .i64 0, .int .i64 0, .int .i64 0] 42)) w.heap.size 42 (insCs i0)) := Lib.hid (BoxC.new w _ _)
  go_enter Tryz.func40, Tryz.ntmps40
  go_upto_region 3 with (go_at_call 67; refine (HW.out _).mono ?_; rintro e z ⟨v, rfl, hx, hst⟩; replace HU := Lib.hid (HU.out.trans hx); replace B0 := Lib.hid (B0.out.up hx); have HST := Lib.hid hst; clear hx hst)
  have HSB : Hid (StrsB z.heap.size z v L) := Lib.hid ⟨HST.out, fun b hb => by
    obtain ⟨a, c, e, _, _⟩ := HST.out
    subst e
    obtain ⟨g, o, ha, hg, _⟩ := HST.out.get 0 (by rw [HN.out]; exact hL0)
    subst ha
    have : g = b := by simpa [blk] using hb
    omega⟩
  obtain ⟨a, c, hv, hc⟩ := HSB.out.shape
  rw [HN.out] at hv hc
  subst hv
  refine wp_gen (F := fun u => Up w u ∧ BoxC u w.heap.size 42 (insCs i0) ∧ BoxC u z.heap.size 42 (insCs (-1, 0, 0, 0, (0, 0), y0)) ∧ StrsB z.heap.size u (.slice a n c) L ∧ w.heap.size < z.heap.size) ⟨HU.out.alloc _, B0.out.up ((Up.refl z).alloc _), BoxC.new z _ _, HSB.out.up ((Up.refl z).alloc _), B0.out.lt⟩ ?_
  rintro u ⟨hu, hb0, hbx, hsb, hgx⟩
  replace HU := Lib.hid hu
  replace B0 := Lib.hid hb0
  have HX := Lib.hid hbx
  clear HST HSB
  have HST := Lib.hid hsb
  clear hu hb0 hbx hsb
  generalize z.heap.size = gx at *
  clear z
  go_wp2
  go_loopw [6] (fun iv wr => ∃ (k : Nat) (o : Int), iv = .int .i64 k ∧ k ≤ 17 ∧ OpAt (L.getD 0 []) k o ∧ Up w wr ∧ BoxC wr w.heap.size 42 (insCs i0) ∧ BoxC wr gx 42 (insCs (o, 0, 0, 0, (0, 0), y0)) ∧ StrsB gx wr (.slice a n c) L) (fun iv _ => 17 - (intOf iv).toNat)
  case atStart => exact ⟨0, -1, rfl, by omega, .inl ⟨rfl, fun j hj => by omega⟩, HU.out, B0.out, HX.out, HST.out⟩
  case round =>
    rename World => wr
    obtain ⟨k, o, rfl, hk, hop, hu, hb0, hbx, hsb⟩ := hrel
    replace HU := Lib.hid hu
    replace B0 := Lib.hid hb0
    replace HX := Lib.hid hbx
    replace HST := Lib.hid hsb
    have HO := Lib.hid hop
    clear hu hb0 hbx hsb hop
    obtain ⟨g0, o0, rfl, hg0, hc0⟩ := HST.out.1.get 0 (by rw [HN.out]; exact hL0)
    rw [Nat.add_zero] at hc0
    have hx0 := HX.out.i0
    have hxf := HX.out.frozen
    dsimp only at hx0
    by_cases hlt : k < 17
    · have hltI : (k : Int) ≤ 16 := by omega
      have HMN := Lib.hid (fun y => r47_Mnemonic k hlt y)
      obtain ⟨q, hq⟩ : ∃ q, ((mnS k).toList == (bst (L.getD 0 [])).toList) = q := ⟨_, rfl⟩
      have HQ : Hid (decide ((mnS k).data.toList = L.getD 0 []) = q) := Lib.hid (by rw [← hq, beq_bytes])
      generalize bst (L.getD 0 []) = W0 at *
      cases q
      · have HO2 : Hid (OpAt (L.getD 0 []) (k + 1) o) := Lib.hid (HO.out.miss (by simpa using HQ.out))
        go_upto_region 6 with fail
        refine wp_region_ext (by kernel_rfl) (by kernel_rfl) ?_
        repeat (go_big_quiet_step (first | (go_at_call 15; exact Calls.ext_of (HMN.out _))))
        refine wpQuiet_nil ?_
        intro y hy
        go_wp2
        try go_roundw
        case rel => exact ⟨k + 1, o, by go_num, by omega, HO2.out, HU.out.trans hy, B0.out.up hy, HX.out.up hy, HST.out.up hy⟩
        case measure => simp [intOf]; omega
      · have HO2 : Hid (OpAt (L.getD 0 []) (k + 1) k) := Lib.hid (OpAt.hit (by simpa using HQ.out))
        go_upto_region 6 with fail
        refine wp_region_ext (by kernel_rfl) (by kernel_rfl) ?_
        repeat (go_big_quiet_step (first | (go_at_call 15; exact Calls.ext_of (HMN.out _))))
        refine wpQuiet_nil ?_
        intro y hy
        replace HU := Lib.hid (HU.out.trans hy)
        replace B0 := Lib.hid (B0.out.up hy)
        replace HX := Lib.hid (HX.out.up hy)
        replace HST := Lib.hid (HST.out.up hy)
        clear hx0 hxf hy hc0 hg0
        have hx0 := HX.out.i0
        have hxf := HX.out.frozen
        dsimp only at hx0
        go_wp2
        try go_roundw
        case rel => exact ⟨k + 1, k, by go_num, by omega, HO2.out, HU.out.setCell (Nat.le_of_lt hgx) _, box_skip B0.out _ _ (by show gx ≠ _; omega), HX.out.s0 _, HST.out.set _ _⟩
        case measure => simp [intOf]; omega
    · obtain rfl : k = 17 := by omega
      clear hc0 hg0 hlt
      rcases HO.out.fin with ⟨rfl, hf⟩ | ⟨op', hop', rfl, hf⟩
      · have h := HF0.out
        rw [hf] at h
        cases h
      obtain rfl : op = op' := by have h := HF0.out; rw [hf] at h; exact (Option.some.inj h).symm
      clear hop' HF0
      · have HRB : Hid (riB op L.tail = R) := Lib.hid HR.out
        have HOPS := Lib.hid (fun y => r47_operands op hop y)
        have j0 : ∀ w, (Instr.index 9 (.string (kdS op)) (.int .i64 0)).run Tryz.prog w = .ok (.int .u8 (kdN op 0)) w := fun w => kd_index op 0 hop (by omega) w
        have j1 : ∀ w, (Instr.index 9 (.string (kdS op)) (.int .i64 1)).run Tryz.prog w = .ok (.int .u8 (kdN op 1)) w := fun w => kd_index op 1 hop (by omega) w
        have j2 : ∀ w, (Instr.index 9 (.string (kdS op)) (.int .i64 2)).run Tryz.prog w = .ok (.int .u8 (kdN op 2)) w := fun w => kd_index op 2 hop (by omega) w
        clear HR HO hf hxf
        have hopI : ¬ (op : Int) < 0 := by omega
        have n1I : (1 : Int) ≤ n := by omega
        have HTL := Lib.hid (HST.out.tail hL0)
        have HT2 : Hid (L.tail.length ≤ 20000 ∧ ∀ t ∈ L.tail, t.length ≤ 10000) := Lib.hid ⟨by rw [List.length_tail, HN.out]; omega, fun t ht => HL2.out t (List.mem_of_mem_tail ht)⟩
        have e9 : ((op : Int) == 9) = false := by simp; omega
        have e10 : ((op : Int) == 10) = true := by simp; omega
        have e11 : ((op : Int) == 11) = false := by simp; omega
        have e12 : ((op : Int) == 12) = false := by simp; omega
        have e13 : ((op : Int) == 13) = false := by simp; omega
        have e14 : ((op : Int) == 14) = false := by simp; omega
        have ne12 : ((op : Int) != 12) = true := by rw [bne, e12]; rfl
        have tb : typedB (op : Int) = false := by unfold typedB; simp; omega
        have HQC := Lib.hid q10
        clear q10
        have HR0 : Hid (R64 (op : Int)) := Lib.hid ⟨by omega, by omega⟩
        have z0R : R64 0 := ⟨by decide, by decide⟩
        have hpos := hL0
        have HT2 : Hid (L.length ≤ 20000 ∧ ∀ t ∈ L, t.length ≤ 10000) := Lib.hid ⟨by rw [HN.out]; exact hLl, HL2.out⟩
        clear hL0 hLl hL0I hLlI HL2 HW
        generalize L = l at *
        have HTL := Lib.hid (HST.out.tail' hpos)
        have HT3 : Hid (l.tail.length ≤ 20000 ∧ ∀ t ∈ l.tail, t.length ≤ 10000) := Lib.hid ⟨by rw [List.length_tail]; have := HT2.out.1; omega, fun t ht => HT2.out.2 t (List.mem_of_mem_tail ht)⟩
        have HN3 : Hid (l.tail.length = n - 1) := Lib.hid (by rw [List.length_tail, HN.out])
        have n1I : (1 : Int) ≤ n := by omega
        go_upto_region 11 with fail
        clear n1I HST
        (try clear hc0)
        generalize (if c = 1 then some (⟨g0, o0, none⟩ : Addr) else some ⟨g0, o0 + 1, none⟩) = a2 at *
        clear hpos HT2 HN
        (try clear hg0)
        generalize l.tail = l2 at *
        generalize n - 1 = n2 at *
        generalize c - 1 = c2 at *
        have HST := HTL
        have HT2 := HT3
        have HN := HN3
        clear HTL HT3 HN3
        generalize a2 = a at *
        generalize l2 = l at *
        generalize n2 = n at *
        generalize c2 = c at *
        have hnI : (n : Int) ≤ 20000 := by have := HT2.out.1; rw [HN.out] at this; omega
        have HRB1 := HRB
        clear HRB
        unfold riB at HRB1
        rw [if_neg (by have := HQC.out; unfold named; simp; omega)] at HRB1
        have HRB := HRB1
        clear HRB1
        have HRn : Hid (R64 0) := Lib.hid z0R
        have HRd : Hid (R64 0) := Lib.hid z0R
        go_upto_region 19 with (go_at_call 41; refine (HOPS.out _).mono ?_; rintro e x ⟨rfl, hx⟩; (try (replace hc0 := cell_up hx hc0; replace hg0 := Nat.lt_of_lt_of_le hg0 hx.size)); replace HST := Lib.hid (HST.out.up hx); replace HU := Lib.hid (HU.out.trans hx); replace B0 := Lib.hid (B0.out.up hx); replace HX := Lib.hid (HX.out.up hx); (try clear x0 x1 x2 x3 x4 x5 x6 x7 x8 x9 x10 xf); have xf := HX.out.frozen; have xa := boxAll HX.out; dsimp only at xa; obtain ⟨x0, x1, x2, x3, x4, x5, x6, x7, x8, x9, x10⟩ := xa; clear hx)
        have HRC0 := Lib.hid z0R
        clear z0R
        unfold riC at HRB
        generalize kdN op 0 = d0 at *
        generalize kdN op 1 = d1 at *
        have HO0 := Lib.hid (fun y v (hy : StrsB gx y v l) => r47_one d0 v l y hy.1 HT2.out.1 HT2.out.2 HP.out)
        have hlen := oneF_len d0 l
        have hRA := oneF_R d0 l
        obtain ⟨q, hq⟩ : ∃ q, oneF d0 l = q := ⟨_, rfl⟩
        rw [hq] at HO0 HRB hlen hRA
        clear hq
        obtain ⟨A, l1, k0⟩ := q
        dsimp only at HO0 HRB hlen hRA
        have HRA := Lib.hid hRA
        have HT2l1 : Hid (l1.length ≤ 20000 ∧ ∀ t ∈ l1, t.length ≤ 10000) := Lib.hid ⟨Nat.le_trans hlen.1 HT2.out.1, fun t ht => HT2.out.2 t (hlen.2 t ht)⟩
        obtain ⟨n1, hnn⟩ : ∃ q, l1.length = q := ⟨_, rfl⟩
        have HN1 := Lib.hid hnn
        clear hnn hlen hRA
        have HO1 := Lib.hid (fun y v (hy : StrsB gx y v l1) => r47_one d1 v l1 y hy.1 HT2l1.out.1 HT2l1.out.2 HP.out)
        have hlen := oneF_len d1 l1
        have hRA := oneF_R d1 l1
        obtain ⟨q, hq⟩ : ∃ q, oneF d1 l1 = q := ⟨_, rfl⟩
        rw [hq] at HO1 HRB hlen hRA
        clear hq
        obtain ⟨Bv, l2, k1⟩ := q
        dsimp only at HO1 HRB hlen hRA
        have HRBv := Lib.hid hRA
        have HT2l2 : Hid (l2.length ≤ 20000 ∧ ∀ t ∈ l2, t.length ≤ 10000) := Lib.hid ⟨Nat.le_trans hlen.1 HT2l1.out.1, fun t ht => HT2l1.out.2 t (hlen.2 t ht)⟩
        obtain ⟨n2, hnn⟩ : ∃ q, l2.length = q := ⟨_, rfl⟩
        have HN2 := Lib.hid hnn
        clear hnn hlen hRA
        go_upto_region 23 with (first
          | (go_at_call 69; (with_reducible refine (HO0.out _ _ HST.out).mono ?_); rintro e x ⟨uu, rfl, hx, hst, hbk⟩; have HS2 : Hid (StrsB gx x uu l1) := Lib.hid ⟨hst, fun b hb => HST.out.2 b (hbk b hb)⟩; clear hst hbk HST; have HST := HS2; clear HS2; obtain ⟨a, c, hv1, hc1⟩ := HST.out.shape; rw [HN1.out] at hv1; subst hv1; replace HU := Lib.hid (HU.out.trans hx); replace B0 := Lib.hid (B0.out.up hx); replace HX := Lib.hid (HX.out.up hx); (try clear x0 x1 x2 x3 x4 x5 x6 x7 x8 x9 x10 xf); have xf := HX.out.frozen; have xa := boxAll HX.out; dsimp only at xa; obtain ⟨x0, x1, x2, x3, x4, x5, x6, x7, x8, x9, x10⟩ := xa; clear hx)
          | (go_at_call 69; (with_reducible refine (HO1.out _ _ HST.out).mono ?_); rintro e x ⟨uu, rfl, hx, hst, hbk⟩; have HS2 : Hid (StrsB gx x uu l2) := Lib.hid ⟨hst, fun b hb => HST.out.2 b (hbk b hb)⟩; clear hst hbk HST; have HST := HS2; clear HS2; obtain ⟨a, c, hv1, hc1⟩ := HST.out.shape; rw [HN2.out] at hv1; subst hv1; replace HU := Lib.hid (HU.out.trans hx); replace B0 := Lib.hid (B0.out.up hx); replace HX := Lib.hid (HX.out.up hx); (try clear x0 x1 x2 x3 x4 x5 x6 x7 x8 x9 x10 xf); have xf := HX.out.frozen; have xa := boxAll HX.out; dsimp only at xa; obtain ⟨x0, x1, x2, x3, x4, x5, x6, x7, x8, x9, x10⟩ := xa; clear hx))
        clear HN HT2 HO0 HO1 HN1 HT2l1
        have HN := HN2
        have HT2 := HT2l2
        clear HN2 HT2l2
        generalize l2 = l at *
        generalize n2 = n at *
        have hnI : (n : Int) ≤ 20000 := by have := HT2.out.1; rw [HN.out] at this; omega
        rename (∀ (a : Act) (w : World), _ → _) => hk1
        revert hk1
        (try (rename (∀ (a : Act) (w : World), _ → _) => hk2; revert hk2; (try (rename (∀ (a : Act) (w : World), _ → _) => hk3; revert hk3; (repeat (rename (∀ (a : Act) (w : World), _ → _) => hcont; clear hcont)); intro hk3)); intro hk2))
        intro hk1
        refine wp_gen (F := fun u => Up w u ∧ BoxC u w.heap.size 42 (insCs i0) ∧ BoxC u gx 42 (insCs ((op : Int), A, Bv, 0, (0, 0), 0, 0, 0, 0, 0)) ∧ StrsB gx u (.slice a n c) l) ⟨((HU.out.setCell (p := ⟨gx, 1, none⟩) (Nat.le_of_lt hgx) _).setCell (p := ⟨gx, 2, none⟩) (Nat.le_of_lt hgx) _), (box_skip (box_skip B0.out _ _ (by show gx ≠ _; omega)) _ _ (by show gx ≠ _; omega)), ((HX.out.s1 _).s2 _), ((HST.out.set _ _).set _ _)⟩ ?_
        rintro u ⟨hu, hb0, hbx, hst⟩
        replace HU := Lib.hid hu
        replace B0 := Lib.hid hb0
        replace HX := Lib.hid hbx
        replace HST := Lib.hid hst
        clear hu hb0 hbx hst
        (try clear x0 x1 x2 x3 x4 x5 x6 x7 x8 x9 x10 xf); have xf := HX.out.frozen; have xa := boxAll HX.out; dsimp only at xa; obtain ⟨x0, x1, x2, x3, x4, x5, x6, x7, x8, x9, x10⟩ := xa
        cases k0
        · have HE : Hid (R = (i0, false)) := Lib.hid (by have h := HRB.out; rewrite [if_pos (.inl rfl)] at h; exact h.symm)
          have bf := B0.out.frozen
          obtain ⟨b0, b1, b2, b3, b4, b5, b6, b7, b8, b9, b10⟩ := boxAll B0.out
          have s0 := box_zero B0.out 0 (by decide)
          have s1 := box_zero B0.out 1 (by decide)
          have s2 := box_zero B0.out 2 (by decide)
          have s3 := box_zero B0.out 3 (by decide)
          have s4 := box_zero B0.out 4 (by decide)
          have s5 := box_zero B0.out 5 (by decide)
          have s6 := box_zero B0.out 6 (by decide)
          have s7 := box_zero B0.out 7 (by decide)
          have s8 := box_zero B0.out 8 (by decide)
          have s9 := box_zero B0.out 9 (by decide)
          have s10 := box_zero B0.out 10 (by decide)
          go_wp2
          refine bodyPost_ret (v := .tuple #[.agg #[.int .i64 0, .int .i64 0, .int .i64 0, .int .i64 0, .int .i64 0, .int .i64 0, .int .i64 0, .int .i64 0, .int .i64 0, .int .i64 0, .int .i64 0], .bool false]) (by simp [results, Tryz.results40, go_sem, b0, b1, b2, b3, b4, b5, b6, b7, b8, b9, b10]) rfl ?_
          exact ⟨by rw [HE.out]; (try rfl), HU.out⟩
        cases k1
        · have HE : Hid (R = (i0, false)) := Lib.hid (by have h := HRB.out; rewrite [if_pos (.inr rfl)] at h; exact h.symm)
          have bf := B0.out.frozen
          obtain ⟨b0, b1, b2, b3, b4, b5, b6, b7, b8, b9, b10⟩ := boxAll B0.out
          have s0 := box_zero B0.out 0 (by decide)
          have s1 := box_zero B0.out 1 (by decide)
          have s2 := box_zero B0.out 2 (by decide)
          have s3 := box_zero B0.out 3 (by decide)
          have s4 := box_zero B0.out 4 (by decide)
          have s5 := box_zero B0.out 5 (by decide)
          have s6 := box_zero B0.out 6 (by decide)
          have s7 := box_zero B0.out 7 (by decide)
          have s8 := box_zero B0.out 8 (by decide)
          have s9 := box_zero B0.out 9 (by decide)
          have s10 := box_zero B0.out 10 (by decide)
          go_wp2
          refine bodyPost_ret (v := .tuple #[.agg #[.int .i64 0, .int .i64 0, .int .i64 0, .int .i64 0, .int .i64 0, .int .i64 0, .int .i64 0, .int .i64 0, .int .i64 0, .int .i64 0, .int .i64 0], .bool false]) (by simp [results, Tryz.results40, go_sem, b0, b1, b2, b3, b4, b5, b6, b7, b8, b9, b10]) rfl ?_
          exact ⟨by rw [HE.out]; (try rfl), HU.out⟩
        replace HRB := Lib.hid (by have h := HRB.out; rewrite [if_neg (by decide)] at h; exact h)
        unfold riD at HRB
        rw [if_pos (by have := HQC.out; unfold valued; simp; omega)] at HRB
        by_cases z0 : n = 0
        · have z0b : ((n : Int) == 0) = true := by simp; omega
          have HE : Hid (R = (i0, false)) := Lib.hid (by have h := HRB.out; rewrite [if_pos (HN.out.trans z0)] at h; exact h.symm)
          have bf := B0.out.frozen
          obtain ⟨b0, b1, b2, b3, b4, b5, b6, b7, b8, b9, b10⟩ := boxAll B0.out
          have s0 := box_zero B0.out 0 (by decide)
          have s1 := box_zero B0.out 1 (by decide)
          have s2 := box_zero B0.out 2 (by decide)
          have s3 := box_zero B0.out 3 (by decide)
          have s4 := box_zero B0.out 4 (by decide)
          have s5 := box_zero B0.out 5 (by decide)
          have s6 := box_zero B0.out 6 (by decide)
          have s7 := box_zero B0.out 7 (by decide)
          have s8 := box_zero B0.out 8 (by decide)
          have s9 := box_zero B0.out 9 (by decide)
          have s10 := box_zero B0.out 10 (by decide)
          go_wp2
          refine bodyPost_ret (v := .tuple #[.agg #[.int .i64 0, .int .i64 0, .int .i64 0, .int .i64 0, .int .i64 0, .int .i64 0, .int .i64 0, .int .i64 0, .int .i64 0, .int .i64 0, .int .i64 0], .bool false]) (by simp [results, Tryz.results40, go_sem, b0, b1, b2, b3, b4, b5, b6, b7, b8, b9, b10]) rfl ?_
          exact ⟨by rw [HE.out]; (try rfl), HU.out⟩
        have z0b : ((n : Int) == 0) = false := by simp; omega
        have hpos : 0 < n := by omega
        replace HRB := Lib.hid (by have h := HRB.out; rewrite [if_neg (fun h => z0 (HN.out.symm.trans h))] at h; exact h)
        clear z0
        obtain ⟨g0, o0, rfl, hg0, hc0⟩ := HST.out.1.get 0 (by rw [HN.out]; exact hpos)
        rw [Nat.add_zero] at hc0
        have HPR : Hid (RPar (l.getD 0 [])) := Lib.hid (HP.out _ (by
          rw [List.getD_eq_getElem?_getD]
          cases hk : l[0]? with
          | none => exact Nat.zero_le _
          | some t => exact HT2.out.2 t (List.mem_of_getElem? hk)))
        unfold RPar at HPR
        have hrr := fun h => rparF_R (s := l.getD 0 []) h
        obtain ⟨q, hq⟩ : ∃ q, rparF (l.getD 0 []) = q := ⟨_, rfl⟩
        rw [hq] at HPR HRB hrr
        clear hq
        obtain ⟨⟨vn, vd⟩, e0⟩ := q
        dsimp only at HPR HRB hrr
        have HRR := Lib.hid hrr
        clear hrr
        generalize bst (l.getD 0 []) = W0 at *
        go_upto_region 29 with (go_at_call 70; refine (HPR.out _).mono ?_; rintro e x ⟨rfl, hx⟩; (try (replace hc0 := cell_up hx hc0; replace hg0 := Nat.lt_of_lt_of_le hg0 hx.size)); replace HST := Lib.hid (HST.out.up hx); replace HU := Lib.hid (HU.out.trans hx); replace B0 := Lib.hid (B0.out.up hx); replace HX := Lib.hid (HX.out.up hx); (try clear x0 x1 x2 x3 x4 x5 x6 x7 x8 x9 x10 xf); have xf := HX.out.frozen; have xa := boxAll HX.out; dsimp only at xa; obtain ⟨x0, x1, x2, x3, x4, x5, x6, x7, x8, x9, x10⟩ := xa; clear hx)
        clear hc0 hg0
        rename (∀ (a : Act) (w : World), _ → _) => hk1
        revert hk1
        (try (rename (∀ (a : Act) (w : World), _ → _) => hk2; revert hk2; (try (rename (∀ (a : Act) (w : World), _ → _) => hk3; revert hk3; (repeat (rename (∀ (a : Act) (w : World), _ → _) => hcont; clear hcont)); intro hk3)); intro hk2))
        intro hk1
        refine wp_gen (F := fun u => Up w u ∧ BoxC u w.heap.size 42 (insCs i0) ∧ BoxC u gx 42 (insCs ((op : Int), A, Bv, 0, (0, 0), 0, 0, 0, 0, 0)) ∧ StrsB gx u (.slice (some ⟨g0, o0, none⟩) n c) l ∧ BoxC u x.heap.size 38 #[.int .i64 vn, .int .i64 vd] ∧ gx < x.heap.size) ⟨HU.out.alloc _, B0.out.up ((Up.refl x).alloc _), HX.out.up ((Up.refl x).alloc _), HST.out.up ((Up.refl x).alloc _), BoxC.new x _ _, HX.out.lt⟩ ?_
        rintro u ⟨hu, hb0, hbx, hst, hty, hgt⟩
        replace HU := Lib.hid hu
        replace B0 := Lib.hid hb0
        replace HX := Lib.hid hbx
        replace HST := Lib.hid hst
        have HTB := Lib.hid hty
        clear hu hb0 hbx hst hty
        (try clear x0 x1 x2 x3 x4 x5 x6 x7 x8 x9 x10 xf); have xf := HX.out.frozen; have xa := boxAll HX.out; dsimp only at xa; obtain ⟨x0, x1, x2, x3, x4, x5, x6, x7, x8, x9, x10⟩ := xa
        generalize x.heap.size = gt at *
        by_cases he : e0 = 0
        rotate_left
        · have heb : (e0 == 0) = false := by simpa using he
          have hec : (e0 != 0) = true := by simpa using he
          have HE : Hid (R = (i0, false)) := Lib.hid (by have h := HRB.out; rewrite [if_pos he] at h; exact h.symm)
          have bf := B0.out.frozen
          obtain ⟨b0, b1, b2, b3, b4, b5, b6, b7, b8, b9, b10⟩ := boxAll B0.out
          have s0 := box_zero B0.out 0 (by decide)
          have s1 := box_zero B0.out 1 (by decide)
          have s2 := box_zero B0.out 2 (by decide)
          have s3 := box_zero B0.out 3 (by decide)
          have s4 := box_zero B0.out 4 (by decide)
          have s5 := box_zero B0.out 5 (by decide)
          have s6 := box_zero B0.out 6 (by decide)
          have s7 := box_zero B0.out 7 (by decide)
          have s8 := box_zero B0.out 8 (by decide)
          have s9 := box_zero B0.out 9 (by decide)
          have s10 := box_zero B0.out 10 (by decide)
          go_wp2
          refine bodyPost_ret (v := .tuple #[.agg #[.int .i64 0, .int .i64 0, .int .i64 0, .int .i64 0, .int .i64 0, .int .i64 0, .int .i64 0, .int .i64 0, .int .i64 0, .int .i64 0, .int .i64 0], .bool false]) (by simp [results, Tryz.results40, go_sem, b0, b1, b2, b3, b4, b5, b6, b7, b8, b9, b10]) rfl ?_
          exact ⟨by rw [HE.out]; (try rfl), HU.out⟩
        replace HRB := Lib.hid (by have h := HRB.out; rewrite [if_neg (by simpa using he)] at h; exact h)
        have HRn' := Lib.hid (HRR.out he).1
        have HRd' := Lib.hid (HRR.out he).2
        clear HRn HRd HRR
        have HRn := HRn'
        have HRd := HRd'
        clear HRn' HRd'
        subst he
        obtain ⟨ty0, ty1⟩ := HTB.out.two
        have hgne : gt ≠ gx := by omega
        have hgne2 : (gt = gx) = False := by simp; omega
        have hgne3 : (gx = gt) = False := by simp; omega
        go_upto_region 32 with fail
        clear ty0 ty1 hgne hgne2 hgne3 HTB hgt
        rename (∀ (a : Act) (w : World), _ → _) => hk1
        revert hk1
        (try (rename (∀ (a : Act) (w : World), _ → _) => hk2; revert hk2; (try (rename (∀ (a : Act) (w : World), _ → _) => hk3; revert hk3; (repeat (rename (∀ (a : Act) (w : World), _ → _) => hcont; clear hcont)); intro hk3)); intro hk2))
        intro hk1
        refine wp_gen (F := fun u => Up w u ∧ BoxC u w.heap.size 42 (insCs i0) ∧ BoxC u gx 42 (insCs ((op : Int), A, Bv, 0, (vn, vd), 0, 0, 0, 0, 0)) ∧ StrsB gx u (.slice (some ⟨g0, o0, none⟩) n c) l) ⟨((HU.out.setCell (p := ⟨gx, 4, none⟩) (Nat.le_of_lt hgx) _).setCell (p := ⟨gx, 5, none⟩) (Nat.le_of_lt hgx) _), (box_skip (box_skip B0.out _ _ (by show gx ≠ _; omega)) _ _ (by show gx ≠ _; omega)), ((HX.out.s4 _).s5 _), ((HST.out.set _ _).set _ _)⟩ ?_
        rintro u ⟨hu, hb0, hbx, hst⟩
        replace HU := Lib.hid hu
        replace B0 := Lib.hid hb0
        replace HX := Lib.hid hbx
        replace HST := Lib.hid hst
        clear hu hb0 hbx hst
        (try clear x0 x1 x2 x3 x4 x5 x6 x7 x8 x9 x10 xf); have xf := HX.out.frozen; have xa := boxAll HX.out; dsimp only at xa; obtain ⟨x0, x1, x2, x3, x4, x5, x6, x7, x8, x9, x10⟩ := xa
        have HTL := Lib.hid (HST.out.tail' hpos)
        have HT3 : Hid (l.tail.length ≤ 20000 ∧ ∀ t ∈ l.tail, t.length ≤ 10000) := Lib.hid ⟨by rw [List.length_tail]; have := HT2.out.1; omega, fun t ht => HT2.out.2 t (List.mem_of_mem_tail ht)⟩
        have HN3 : Hid (l.tail.length = n - 1) := Lib.hid (by rw [List.length_tail, HN.out])
        have n1I : (1 : Int) ≤ n := by omega
        go_upto_region 33 with fail
        clear n1I HST
        (try clear hc0)
        generalize (if c = 1 then some (⟨g0, o0, none⟩ : Addr) else some ⟨g0, o0 + 1, none⟩) = a2 at *
        clear hpos HT2 HN
        (try clear hg0)
        generalize l.tail = l2 at *
        generalize n - 1 = n2 at *
        generalize c - 1 = c2 at *
        have HST := HTL
        have HT2 := HT3
        have HN := HN3
        clear HTL HT3 HN3
        generalize a2 = a at *
        generalize l2 = l at *
        generalize n2 = n at *
        generalize c2 = c at *
        have hnI : (n : Int) ≤ 20000 := by have := HT2.out.1; rw [HN.out] at this; omega
        unfold riE at HRB
        replace HRB := Lib.hid (by have h := HRB.out; rewrite [if_pos (.inl (by have := HQC.out; omega))] at h; exact h)
        clear HRC0
        generalize kdN op 2 = d2 at *
        have HO2 := Lib.hid (fun y v (hy : StrsB gx y v l) => r47_one d2 v l y hy.1 HT2.out.1 HT2.out.2 HP.out)
        have hlen := oneF_len d2 l
        have hRA := oneF_R d2 l
        obtain ⟨q, hq⟩ : ∃ q, oneF d2 l = q := ⟨_, rfl⟩
        rw [hq] at HO2 HRB hlen hRA
        clear hq
        obtain ⟨C, l3, k2⟩ := q
        dsimp only at HO2 HRB hlen hRA
        have HRC := Lib.hid hRA
        have HT2l3 : Hid (l3.length ≤ 20000 ∧ ∀ t ∈ l3, t.length ≤ 10000) := Lib.hid ⟨Nat.le_trans hlen.1 HT2.out.1, fun t ht => HT2.out.2 t (hlen.2 t ht)⟩
        obtain ⟨n3, hnn⟩ : ∃ q, l3.length = q := ⟨_, rfl⟩
        have HN3 := Lib.hid hnn
        clear hnn hlen hRA
        go_upto_region 35 with (go_at_call 69; (with_reducible refine (HO2.out _ _ HST.out).mono ?_); rintro e x ⟨uu, rfl, hx, hst, hbk⟩; have HS2 : Hid (StrsB gx x uu l3) := Lib.hid ⟨hst, fun b hb => HST.out.2 b (hbk b hb)⟩; clear hst hbk HST; have HST := HS2; clear HS2; obtain ⟨a, c, hv1, hc1⟩ := HST.out.shape; rw [HN3.out] at hv1; subst hv1; replace HU := Lib.hid (HU.out.trans hx); replace B0 := Lib.hid (B0.out.up hx); replace HX := Lib.hid (HX.out.up hx); (try clear x0 x1 x2 x3 x4 x5 x6 x7 x8 x9 x10 xf); have xf := HX.out.frozen; have xa := boxAll HX.out; dsimp only at xa; obtain ⟨x0, x1, x2, x3, x4, x5, x6, x7, x8, x9, x10⟩ := xa; clear hx)
        cases k2
        · have HE : Hid (R = (i0, false)) := Lib.hid (by have h := HRB.out; rewrite [if_pos rfl] at h; exact h.symm)
          have bf := B0.out.frozen
          obtain ⟨b0, b1, b2, b3, b4, b5, b6, b7, b8, b9, b10⟩ := boxAll B0.out
          have s0 := box_zero B0.out 0 (by decide)
          have s1 := box_zero B0.out 1 (by decide)
          have s2 := box_zero B0.out 2 (by decide)
          have s3 := box_zero B0.out 3 (by decide)
          have s4 := box_zero B0.out 4 (by decide)
          have s5 := box_zero B0.out 5 (by decide)
          have s6 := box_zero B0.out 6 (by decide)
          have s7 := box_zero B0.out 7 (by decide)
          have s8 := box_zero B0.out 8 (by decide)
          have s9 := box_zero B0.out 9 (by decide)
          have s10 := box_zero B0.out 10 (by decide)
          go_wp2
          refine bodyPost_ret (v := .tuple #[.agg #[.int .i64 0, .int .i64 0, .int .i64 0, .int .i64 0, .int .i64 0, .int .i64 0, .int .i64 0, .int .i64 0, .int .i64 0, .int .i64 0, .int .i64 0], .bool false]) (by simp [results, Tryz.results40, go_sem, b0, b1, b2, b3, b4, b5, b6, b7, b8, b9, b10]) rfl ?_
          exact ⟨by rw [HE.out]; (try rfl), HU.out⟩
        replace HRB := Lib.hid (by have h := HRB.out; rewrite [if_neg (by decide)] at h; exact h)
        clear HO2 HN HT2
        have HN := HN3
        have HT2 := HT2l3
        clear HN3 HT2l3
        generalize l3 = l at *
        generalize n3 = n at *
        have hnI : (n : Int) ≤ 20000 := by have := HT2.out.1; rw [HN.out] at this; omega
        go_upto_region 39 with fail
        rename (∀ (a : Act) (w : World), _ → _) => hk1
        revert hk1
        (try (rename (∀ (a : Act) (w : World), _ → _) => hk2; revert hk2; (try (rename (∀ (a : Act) (w : World), _ → _) => hk3; revert hk3; (repeat (rename (∀ (a : Act) (w : World), _ → _) => hcont; clear hcont)); intro hk3)); intro hk2))
        intro hk1
        refine wp_gen (F := fun u => Up w u ∧ BoxC u w.heap.size 42 (insCs i0) ∧ BoxC u gx 42 (insCs ((op : Int), A, Bv, C, (vn, vd), 0, 0, 0, 0, 0)) ∧ StrsB gx u (.slice a n c) l) ⟨(HU.out.setCell (p := ⟨gx, 3, none⟩) (Nat.le_of_lt hgx) _), (box_skip B0.out _ _ (by show gx ≠ _; omega)), (HX.out.s3 _), (HST.out.set _ _)⟩ ?_
        rintro u ⟨hu, hb0, hbx, hst⟩
        replace HU := Lib.hid hu
        replace B0 := Lib.hid hb0
        replace HX := Lib.hid hbx
        replace HST := Lib.hid hst
        clear hu hb0 hbx hst
        (try clear x0 x1 x2 x3 x4 x5 x6 x7 x8 x9 x10 xf); have xf := HX.out.frozen; have xa := boxAll HX.out; dsimp only at xa; obtain ⟨x0, x1, x2, x3, x4, x5, x6, x7, x8, x9, x10⟩ := xa
        have HRG := HRB
        clear HRB
        unfold riH at HRG
        rw [if_neg (by rw [tb]; decide)] at HRG
        have HRF : Hid ((((op : Int), A, Bv, C, (vn, vd), 0, 0, 0, 0, 0), decide (l.length = 0) && formB ((op : Int), A, Bv, C, (vn, vd), 0, 0, 0, 0, 0)) = R) := Lib.hid HRG.out
        have z0R : R64 0 := ⟨by decide, by decide⟩
        have HIR : Hid (InR ((op : Int), A, Bv, C, (vn, vd), 0, 0, 0, 0, 0)) := Lib.hid (inR_mk HR0.out HRA.out HRBv.out HRC.out HRn.out HRd.out z0R z0R z0R z0R z0R)
        clear HRG z0R
        have HTD := Lib.hid (fun y => r47_typed (op : Int) false tb y)
        go_upto_region 43 with (go_at_call 44; refine (HTD.out _).mono ?_; rintro e x ⟨rfl, rfl⟩)
        rename (∀ (a : Act) (w : World), _ → _) => hk1
        revert hk1
        (try (rename (∀ (a : Act) (w : World), _ → _) => hk2; revert hk2; (try (rename (∀ (a : Act) (w : World), _ → _) => hk3; revert hk3; (repeat (rename (∀ (a : Act) (w : World), _ → _) => hcont; clear hcont)); intro hk3)); intro hk2))
        intro hk1
        refine wp_gen (F := fun u => Up w u ∧ BoxC u w.heap.size 42 (insCs i0) ∧ BoxC u gx 42 (insCs ((op : Int), A, Bv, C, (vn, vd), 0, 0, 0, 0, 0)) ∧ StrsB gx u (.slice a n c) l) ⟨HU.out, B0.out, HX.out, HST.out⟩ ?_
        rintro u ⟨hu, hb0, hbx, hst⟩
        replace HU := Lib.hid hu
        replace B0 := Lib.hid hb0
        replace HX := Lib.hid hbx
        replace HST := Lib.hid hst
        clear hu hb0 hbx hst
        (try clear x0 x1 x2 x3 x4 x5 x6 x7 x8 x9 x10 xf); have xf := HX.out.frozen; have xa := boxAll HX.out; dsimp only at xa; obtain ⟨x0, x1, x2, x3, x4, x5, x6, x7, x8, x9, x10⟩ := xa
        obtain ⟨Y, hY⟩ : ∃ Y : Ins, ((op : Int), A, Bv, C, (vn, vd), 0, 0, 0, 0, 0) = Y := ⟨_, rfl⟩
        rw [hY] at HX HIR HRF
        clear hY
        (try clear x0 x1 x2 x3 x4 x5 x6 x7 x8 x9 x10)
        obtain ⟨x0, x1, x2, x3, x4, x5, x6, x7, x8, x9, x10⟩ := boxAll HX.out
        obtain ⟨fb, hfb⟩ : ∃ q, formB Y = q := ⟨_, rfl⟩
        have HFM : Hid (∀ y, Calls Tryz.prog 19 #[.agg #[.int .i64 Y.1, .int .i64 Y.2.1, .int .i64 Y.2.2.1, .int .i64 Y.2.2.2.1, .int .i64 Y.2.2.2.2.1.1, .int .i64 Y.2.2.2.2.1.2, .int .i64 Y.2.2.2.2.2.1, .int .i64 Y.2.2.2.2.2.2.1, .int .i64 Y.2.2.2.2.2.2.2.1, .int .i64 Y.2.2.2.2.2.2.2.2.1, .int .i64 Y.2.2.2.2.2.2.2.2.2]] y fun e w' => e = .returned (.bool fb) ∧ Up y w') := Lib.hid (fun y => r47_Formed Y HIR.out fb hfb y)
        rw [hfb] at HRF
        have hlt0 : w.heap.size < u.heap.size := B0.out.lt
        have hxlt : gx < u.heap.size := HX.out.lt
        have hxne : gx ≠ w.heap.size := by omega
        have HUPW : Hid (∀ v, Rr w.heap.size (.cells (insCs Y) 42 (0, 0)) u v → Up w v) := Lib.hid (fun v hv => UpBut.up HU.out (Nat.le_refl _) hv.1)
        have HZS : Hid (∀ v, Rr w.heap.size (.cells (insCs Y) 42 (0, 0)) u v → ∃ z, BoxC v w.heap.size 42 (insCs z)) := Lib.hid (fun v hv => by
          rcases hv.2 with e | e
          · exact ⟨i0, e.trans B0.out⟩
          · exact ⟨_, e⟩)
        clear hfb
        go_upto_region 43 with fail
        rename (∀ (a : Act) (w : World), _ → _) => hk1
        revert hk1
        (try (rename (∀ (a : Act) (w : World), _ → _) => hk2; revert hk2; (try (rename (∀ (a : Act) (w : World), _ → _) => hk3; revert hk3; (repeat (rename (∀ (a : Act) (w : World), _ → _) => hcont; clear hcont)); intro hk3)); intro hk2))
        intro hk1
        refine wp_region_mk_all_r (g := w.heap.size) (C := .cells (insCs Y) 42 (0, 0)) (fun _ _ v _ => v = .bool fb) (by kernel_rfl) (by kernel_rfl) ?_
        iterate 3 (refine wpMk_quiet_r anti_post_r (by kernel_rfl) ?_; go_big_quiet_step (fail); refine wpQuiet_nil ?_)
        by_cases zn : n = 0
        · have znb : ((n : Int) == 0) = true := by simp; omega
          replace HRF : Hid ((Y, fb) = R) := Lib.hid (by rw [← HRF.out, decide_eq_true (HN.out.trans zn), Bool.true_and])
          iterate 2 (refine wpMk_quiet_r anti_post_r (by kernel_rfl) ?_; go_big_quiet_step (fail); refine wpQuiet_nil ?_)
          (refine wpMk_quiet_r anti_post_r (by kernel_rfl) ?_; go_big_quiet_step (fail); refine wpQuiet_nil ?_)
          refine wpMk_enter_r anti_post_r 19 #[.agg #[.int .i64 Y.1, .int .i64 Y.2.1, .int .i64 Y.2.2.1, .int .i64 Y.2.2.2.1, .int .i64 Y.2.2.2.2.1.1, .int .i64 Y.2.2.2.2.1.2, .int .i64 Y.2.2.2.2.2.1, .int .i64 Y.2.2.2.2.2.2.1, .int .i64 Y.2.2.2.2.2.2.2.1, .int .i64 Y.2.2.2.2.2.2.2.2.1, .int .i64 Y.2.2.2.2.2.2.2.2.2]] (fun v x y h hu => h) (by kernel_rfl) (fun x => by go_simp) (fun q hq => (HFM.out q).mono fun e z ⟨h1, h2⟩ => ⟨_, h1, Up.rr h2 _ _ (hq.lt hlt0), rfl⟩) ?_
          rintro v ⟨q0, hq0, rfl⟩
          clear hq0
          simp only [Act.put, List.setIfInBounds_toArray, List.set_cons_succ, List.set_cons_zero]
          (refine wpMk_quiet_r anti_post_r (by kernel_rfl) ?_; go_big_quiet_step (fail); refine wpQuiet_nil ?_)
          refine wpMk_store_r anti_post_r (by kernel_rfl) (fun q hq => by
            obtain ⟨u', hu'⟩ := HZS.out q hq
            have uf := hu'.frozen
            obtain ⟨u0, u1, u2, u3, u4, u5, u6, u7, u8, u9, u10⟩ := boxAll hu'
            exact ⟨(((((((((((q.setCell ⟨w.heap.size, 0, none⟩ (.int .i64 Y.1)).setCell ⟨w.heap.size, 1, none⟩ (.int .i64 Y.2.1)).setCell ⟨w.heap.size, 2, none⟩ (.int .i64 Y.2.2.1)).setCell ⟨w.heap.size, 3, none⟩ (.int .i64 Y.2.2.2.1)).setCell ⟨w.heap.size, 4, none⟩ (.int .i64 Y.2.2.2.2.1.1)).setCell ⟨w.heap.size, 5, none⟩ (.int .i64 Y.2.2.2.2.1.2)).setCell ⟨w.heap.size, 6, none⟩ (.int .i64 Y.2.2.2.2.2.1)).setCell ⟨w.heap.size, 7, none⟩ (.int .i64 Y.2.2.2.2.2.2.1)).setCell ⟨w.heap.size, 8, none⟩ (.int .i64 Y.2.2.2.2.2.2.2.1)).setCell ⟨w.heap.size, 9, none⟩ (.int .i64 Y.2.2.2.2.2.2.2.2.1)).setCell ⟨w.heap.size, 10, none⟩ (.int .i64 Y.2.2.2.2.2.2.2.2.2)), by go_simp, ((((((((((((UpBut.refl _ _).setCell 0 none _).setCell 1 none _).setCell 2 none _).setCell 3 none _).setCell 4 none _).setCell 5 none _).setCell 6 none _).setCell 7 none _).setCell 8 none _).setCell 9 none _).setCell 10 none _), box11 hu'⟩) ?_
          simp only [Act.put, List.setIfInBounds_toArray, List.set_cons_succ, List.set_cons_zero]
          (refine wpMk_quiet_r anti_post_r (by kernel_rfl) ?_; go_big_quiet_step (fail); refine wpQuiet_nil ?_)
          refine wpMk_nil_r ?_
          rintro q hq ⟨-, hC⟩
          have HRZ : Hid (BoxC q w.heap.size 42 (insCs Y)) := Lib.hid hC
          have HUQ := Lib.hid (HUPW.out q hq)
          clear hC hq
          have rf := HRZ.out.frozen
          obtain ⟨r0, r1, r2, r3, r4, r5, r6, r7, r8, r9, r10⟩ := boxAll HRZ.out
          go_wp2
          refine bodyPost_ret (v := .tuple #[.agg #[.int .i64 Y.1, .int .i64 Y.2.1, .int .i64 Y.2.2.1, .int .i64 Y.2.2.2.1, .int .i64 Y.2.2.2.2.1.1, .int .i64 Y.2.2.2.2.1.2, .int .i64 Y.2.2.2.2.2.1, .int .i64 Y.2.2.2.2.2.2.1, .int .i64 Y.2.2.2.2.2.2.2.1, .int .i64 Y.2.2.2.2.2.2.2.2.1, .int .i64 Y.2.2.2.2.2.2.2.2.2], .bool fb]) (by simp [results, Tryz.results40, go_sem, r0, r1, r2, r3, r4, r5, r6, r7, r8, r9, r10]) rfl ?_
          exact ⟨by rw [← HRF.out]; (try rfl), HUQ.out⟩
        · have znb : ((n : Int) == 0) = false := by simp; omega
          replace HRF : Hid ((Y, false) = R) := Lib.hid (by rw [← HRF.out, decide_eq_false (fun h => zn (HN.out.symm.trans h)), Bool.false_and])
          iterate 2 (refine wpMk_quiet_r anti_post_r (by kernel_rfl) ?_; go_big_quiet_step (fail); refine wpQuiet_nil ?_)
          iterate 2 (refine wpMk_unwanted_r anti_post_r (by kernel_rfl) ?_)
          simp only [Act.put, List.setIfInBounds_toArray, List.set_cons_succ, List.set_cons_zero]
          (refine wpMk_quiet_r anti_post_r (by kernel_rfl) ?_; go_big_quiet_step (fail); refine wpQuiet_nil ?_)
          refine wpMk_store_r anti_post_r (by kernel_rfl) (fun q hq => by
            obtain ⟨u', hu'⟩ := HZS.out q hq
            have uf := hu'.frozen
            obtain ⟨u0, u1, u2, u3, u4, u5, u6, u7, u8, u9, u10⟩ := boxAll hu'
            exact ⟨(((((((((((q.setCell ⟨w.heap.size, 0, none⟩ (.int .i64 Y.1)).setCell ⟨w.heap.size, 1, none⟩ (.int .i64 Y.2.1)).setCell ⟨w.heap.size, 2, none⟩ (.int .i64 Y.2.2.1)).setCell ⟨w.heap.size, 3, none⟩ (.int .i64 Y.2.2.2.1)).setCell ⟨w.heap.size, 4, none⟩ (.int .i64 Y.2.2.2.2.1.1)).setCell ⟨w.heap.size, 5, none⟩ (.int .i64 Y.2.2.2.2.1.2)).setCell ⟨w.heap.size, 6, none⟩ (.int .i64 Y.2.2.2.2.2.1)).setCell ⟨w.heap.size, 7, none⟩ (.int .i64 Y.2.2.2.2.2.2.1)).setCell ⟨w.heap.size, 8, none⟩ (.int .i64 Y.2.2.2.2.2.2.2.1)).setCell ⟨w.heap.size, 9, none⟩ (.int .i64 Y.2.2.2.2.2.2.2.2.1)).setCell ⟨w.heap.size, 10, none⟩ (.int .i64 Y.2.2.2.2.2.2.2.2.2)), by go_simp, ((((((((((((UpBut.refl _ _).setCell 0 none _).setCell 1 none _).setCell 2 none _).setCell 3 none _).setCell 4 none _).setCell 5 none _).setCell 6 none _).setCell 7 none _).setCell 8 none _).setCell 9 none _).setCell 10 none _), box11 hu'⟩) ?_
          simp only [Act.put, List.setIfInBounds_toArray, List.set_cons_succ, List.set_cons_zero]
          (refine wpMk_quiet_r anti_post_r (by kernel_rfl) ?_; go_big_quiet_step (fail); refine wpQuiet_nil ?_)
          refine wpMk_nil_r ?_
          rintro q hq ⟨-, hC⟩
          have HRZ : Hid (BoxC q w.heap.size 42 (insCs Y)) := Lib.hid hC
          have HUQ := Lib.hid (HUPW.out q hq)
          clear hC hq
          have rf := HRZ.out.frozen
          obtain ⟨r0, r1, r2, r3, r4, r5, r6, r7, r8, r9, r10⟩ := boxAll HRZ.out
          go_wp2
          refine bodyPost_ret (v := .tuple #[.agg #[.int .i64 Y.1, .int .i64 Y.2.1, .int .i64 Y.2.2.1, .int .i64 Y.2.2.2.1, .int .i64 Y.2.2.2.2.1.1, .int .i64 Y.2.2.2.2.1.2, .int .i64 Y.2.2.2.2.2.1, .int .i64 Y.2.2.2.2.2.2.1, .int .i64 Y.2.2.2.2.2.2.2.1, .int .i64 Y.2.2.2.2.2.2.2.2.1, .int .i64 Y.2.2.2.2.2.2.2.2.2], .bool false]) (by simp [results, Tryz.results40, go_sem, r0, r1, r2, r3, r4, r5, r6, r7, r8, r9, r10]) rfl ?_
          exact ⟨by rw [← HRF.out]; (try rfl), HUQ.out⟩
end Go.Proofs.YtlglfdhiopnglaaGreatDoor

