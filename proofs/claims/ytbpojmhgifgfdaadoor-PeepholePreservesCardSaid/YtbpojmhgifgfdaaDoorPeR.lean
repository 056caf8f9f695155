/-
  remove, of both sides. Printed by mkPeR.py.
-/
import Derived.Test.YtbpojmhgifgfdaaDoorPeH
namespace Go.Proofs.YtbpojmhgifgfdaaDoor
open Go.ChangeShapes Go.WideShapes Go.ChangeAt Go.RowKit
set_option linter.unusedVariables false
set_option linter.unusedSimpArgs false
set_option maxRecDepth 100000

/-- The block that a slice lies in. -/
def blk : Value → Option Nat
  | .slice (some a) _ _ => some a.block
  | _ => none
def Fresh (B : Nat) (v : Value) : Prop := ∀ g, blk v = some g → B ≤ g
theorem Fresh.own {w : World} {base n k : Nat} {e : TypeId} {v : Value} {xs : List Value} (h : w.ownsRow base e k v n xs) : Fresh base v := fun g hg => by
  rcases h.2 with ⟨rfl, _⟩ | ⟨g', cap, cur, rfl, hb, _⟩
  · cases hg
  · cases hg; exact hb
theorem Fresh.le {B C : Nat} {v : Value} (h : Fresh B v) (hc : C ≤ B) : Fresh C v := fun g hg => Nat.le_trans hc (h g hg)
theorem SlAt.set {w : World} {v : Value} {len k : Nat} {f : Nat → Nat → Value} (h : SlAt w v len k f) {b : Nat} (hb : ∀ g, blk v = some g → g ≠ b) (o : Nat) (u : Value) : SlAt (w.setCell ⟨b, o, none⟩ u) v len k f := by
  obtain ⟨⟨a, cap, hv, h0, h1⟩, h2⟩ := h
  refine ⟨⟨a, cap, hv, h0, fun x hx hl => ?_⟩, h2⟩
  obtain ⟨g1, g2, g3⟩ := h1 x hx hl
  have hne : x.block ≠ b := hb _ (by rw [hv, hx]; rfl)
  refine ⟨g1, by simpa [World.setCell] using g2, fun i j hi hj => ?_⟩
  rw [World.cell?_setCell_other _ _ _ _ (fun e => hne (congrArg Addr.block e).symm)]
  exact g3 i j hi hj
theorem Fresh.ne {B b : Nat} {v : Value} (h : Fresh B v) (hb : b < B) : ∀ g, blk v = some g → g ≠ b := fun g hg e => by
  have := h g hg
  omega
theorem InsAt.set {w : World} {v : Value} {l : List Ins} (h : InsAt w v l) {b : Nat} (hb : ∀ g, blk v = some g → g ≠ b) (o : Nat) (u : Value) : InsAt (w.setCell ⟨b, o, none⟩ u) v l := ⟨h.1.set hb o u, h.2⟩
theorem TypAt.set {w : World} {v : Value} {l : List Typ} (h : TypAt w v l) {b : Nat} (hb : ∀ g, blk v = some g → g ≠ b) (o : Nat) (u : Value) : TypAt (w.setCell ⟨b, o, none⟩ u) v l := ⟨h.1.set hb o u, h.2⟩


set_option maxHeartbeats 8000000 in
theorem pe_remove (v : Value) (l : List Ins) (i : Int) (w : World) (hv : InsAt w v l) (hi : 0 ≤ i) (hlen : l.length ≤ 100000) :
    Calls Tryd.prog 43 #[v, .int .i64 i] w fun e w' => ∃ v', e = .returned v' ∧ Up w w' ∧ InsAt w' v' (remF l i) ∧ Fresh w.heap.size v' := by
  obtain ⟨j0, hi0, hz0, hz1, hz2⟩ := info_parts ins_info
  obtain ⟨r, hr⟩ : ∃ r, remF l i = r := ⟨_, rfl⟩
  rw [hr]
  have HV := Lib.hid hv
  obtain ⟨⟨a, cap, rfl⟩, hmax⟩ := hv.slice
  obtain ⟨n, hn⟩ : ∃ n, l.length = n := ⟨_, rfl⟩
  rw [hn] at hmax hlen ⊢
  have HN := Lib.hid hn
  have HR : Hid (remG l 0 i = r) := Lib.hid hr
  obtain ⟨B, hB⟩ : ∃ B, w.heap.size = B := ⟨_, rfl⟩
  have HB := Lib.hid hB
  clear hn hr hv hB
  have hmI : (n : Int) ≤ 100000 := by omega
  go_enter Tryd.func43, Tryd.ntmps43
  go_wp2
  go_loopw [5, 10] (fun ov kv wr => ∃ (k m : Nat) (ys : List Ins), k ≤ n ∧ m ≤ k ∧ kv = .int .i64 k ∧ ys.length = m ∧ wr.ownsRow B 64 11 ov m (flat (insF ys) m 11) ∧ (∀ x ∈ ys, InR x) ∧ ys ++ remG (l.drop k) k i = r ∧ Up w wr) (fun _ kv _ => n - (intOf kv).toNat)
  case atStart => exact ⟨0, 0, [], by omega, by omega, rfl, rfl, World.ownsRow_nil _ _ _ _, (fun x h => by cases h), by rw [List.drop_zero]; exact HR.out, Up.refl w⟩
  case round =>
    rename World => wr
    obtain ⟨k, m, ys, hk, hmk, rfl, hm, hown, hys, hf, hU⟩ := hrel
    obtain ⟨va, vc, rfl⟩ := own_slice hown
    have HOWN := Lib.hid hown
    have HYS := Lib.hid hys
    have HU := Lib.hid hU
    have HM := Lib.hid hm
    clear hown hys hU hm
    by_cases hlt : k < n
    · have hltI : (k : Int) < n := by omega
      obtain ⟨x, hx⟩ : ∃ x, l.getD k i0 = x := ⟨_, rfl⟩
      obtain ⟨bl, off, ha, hbl, ⟨k0, k1, k2, k3, k4, k5, k6, k7, k8, k9, k10⟩, hxr⟩ := HV.out.elem HU.out k (by rw [HN.out]; exact hlt) HN.out (by rw [HN.out]) hx
      subst ha
      have hb1 : bl < wr.heap.size := Nat.lt_of_lt_of_le hbl HU.out.size
      have hd := drop_ins HN.out hlt hx
      rw [hd, remG_cons] at hf
      have HXD := Lib.hid (InR.dec hxr hi)
      have hA := hxr 1
      clear hd hbl hx
      obtain ⟨op, A, b, c, ⟨n1, d⟩, kd, bi, fr, ro, ov⟩ := x
      have hA : R64 A := hA
      dsimp only at k0 k1 k2 k3 k4 k5 k6 k7 k8 k9 k10
      have HF := Lib.hid hf
      clear hf hxr
      by_cases hki : (k : Int) = i
      · have HG : Hid (ys ++ remG (l.drop (k + 1)) (k + 1) i = r) := Lib.hid (by have := HF.out; rw [if_pos hki] at this; exact this)
        subst hki
        go_wp2
        go_roundw
        case rel => exact ⟨k + 1, m, ys, by omega, by omega, by go_num, HM.out, own_up' HOWN.out ((Up.refl wr).alloc (.cells #[.int .i64 op, .int .i64 A, .int .i64 b, .int .i64 c, .int .i64 n1, .int .i64 d, .int .i64 kd, .int .i64 bi, .int .i64 fr, .int .i64 ro, .int .i64 ov] 64)), HYS.out, HG.out, HU.out.trans ((Up.refl wr).alloc (.cells #[.int .i64 op, .int .i64 A, .int .i64 b, .int .i64 c, .int .i64 n1, .int .i64 d, .int .i64 kd, .int .i64 bi, .int .i64 fr, .int .i64 ro, .int .i64 ov] 64))⟩
        case measure => simp [intOf]; omega
      · have hkb : ((k : Int) == i) = false := by simpa using hki
        have hkb2 : ((k : Int) != i) = true := by simpa using hki
        obtain ⟨jj, hj⟩ : ∃ jj, jumpsB op = jj := ⟨_, rfl⟩
        have HJ := Lib.hid hj
        clear hj
        cases jj
        · have hAi : True := trivial
          have HDX : Hid (decA (op, A, b, c, (n1, d), kd, bi, fr, ro, ov) i = ((op, A, b, c, (n1, d), kd, bi, fr, ro, ov) : Ins)) := Lib.hid (by simp [decA, HJ.out, hAi])
          have HG : Hid ((ys ++ [((op, A, b, c, (n1, d), kd, bi, fr, ro, ov) : Ins)]) ++ remG (l.drop (k + 1)) (k + 1) i = r) := Lib.hid (by have := HF.out; rw [if_neg hki, HDX.out] at this; rw [← this, List.append_assoc])
          have HXR : Hid (InR ((op, A, b, c, (n1, d), kd, bi, fr, ro, ov) : Ins)) := Lib.hid (HDX.out ▸ HXD.out)
          have HUW : Hid (Up wr ((wr.alloc (.cells #[.int .i64 op, .int .i64 A, .int .i64 b, .int .i64 c, .int .i64 n1, .int .i64 d, .int .i64 kd, .int .i64 bi, .int .i64 fr, .int .i64 ro, .int .i64 ov] 64)).alloc (.cells #[.int .i64 op, .int .i64 A, .int .i64 b, .int .i64 c, .int .i64 n1, .int .i64 d, .int .i64 kd, .int .i64 bi, .int .i64 fr, .int .i64 ro, .int .i64 ov] 64))) := Lib.hid (((Up.refl wr).alloc (.cells #[.int .i64 op, .int .i64 A, .int .i64 b, .int .i64 c, .int .i64 n1, .int .i64 d, .int .i64 kd, .int .i64 bi, .int .i64 fr, .int .i64 ro, .int .i64 ov] 64)).alloc _)
          have HSL : Hid (SlAt ((wr.alloc (.cells #[.int .i64 op, .int .i64 A, .int .i64 b, .int .i64 c, .int .i64 n1, .int .i64 d, .int .i64 kd, .int .i64 bi, .int .i64 fr, .int .i64 ro, .int .i64 ov] 64)).alloc (.cells #[.int .i64 op, .int .i64 A, .int .i64 b, .int .i64 c, .int .i64 n1, .int .i64 d, .int .i64 kd, .int .i64 bi, .int .i64 fr, .int .i64 ro, .int .i64 ov] 64)) (.slice (some ⟨wr.heap.size + 1, 0, none⟩) 1 1) 1 11 (insF [((op, A, b, c, (n1, d), kd, bi, fr, ro, ov) : Ins)])) := Lib.hid (ins_one (wr.alloc (.cells #[.int .i64 op, .int .i64 A, .int .i64 b, .int .i64 c, .int .i64 n1, .int .i64 d, .int .i64 kd, .int .i64 bi, .int .i64 fr, .int .i64 ro, .int .i64 ov] 64)) 64 ((op, A, b, c, (n1, d), kd, bi, fr, ro, ov) : Ins) (by simp))
          clear HDX
          go_wp2_with (first | (go_at_call 45; refine (pe_jumps _ _ HJ.out _).mono ?_; rintro e' x' ⟨rfl, rfl⟩) | (at_builtin; refine wpList_append_sl _ rfl _ _ 22 rfl B 64 j0 _ 11 88 Tryd.underlying22 hi0 hz0 hz1 hz2 rfl (by decide) (.slice va m vc) m _ rfl (own_up' HOWN.out HUW.out) (.slice (some ⟨wr.heap.size + 1, 0, none⟩) 1 1) 1 _ rfl HSL.out (fun i j _ _ => rfl) (by unfold maxLen; omega) (by omega) (by have := HU.out.size; have := HB.out; simp; omega) ?_; intro v2 w1 hown1 hg1 hat1 hnil1; obtain ⟨vb, vd, rfl⟩ := own_slice hown1; have HO1 := Lib.hid hown1; have HG1 := Lib.hid hg1; clear hown1 hg1 hat1 hnil1))
          have HUN := Lib.hid ((HU.out.trans HUW.out).grown HG1.out fun g hg => by rw [HB.out]; exact own_base HOWN.out g hg)
          have HON : Hid (w1.ownsRow B 64 11 (.slice vb (m + 1) vd) (m + 1) (flat (insF (ys ++ [((op, A, b, c, (n1, d), kd, bi, fr, ro, ov) : Ins)])) (m + 1) 11)) := Lib.hid (by have := HO1.out; rw [← HM.out, ins_snoc, HM.out] at this; exact this)
          clear HO1 HG1
          try go_roundw
          case rel => exact ⟨k + 1, m + 1, ys ++ [((op, A, b, c, (n1, d), kd, bi, fr, ro, ov) : Ins)], by omega, by omega, by go_num, by rw [List.length_append, HM.out]; rfl, HON.out, (fun x h => (List.mem_append.1 h).elim (HYS.out x) fun h => by rw [List.mem_singleton.1 h]; exact HXR.out), HG.out, HUN.out⟩
          case measure => simp [intOf]; omega
        · by_cases hAi : i < A
          · have hwr := R64.dec hA hi hAi
            have HDX : Hid (decA (op, A, b, c, (n1, d), kd, bi, fr, ro, ov) i = ((op, (A - 1), b, c, (n1, d), kd, bi, fr, ro, ov) : Ins)) := Lib.hid (by simp [decA, HJ.out, hAi])
            have HG : Hid ((ys ++ [((op, (A - 1), b, c, (n1, d), kd, bi, fr, ro, ov) : Ins)]) ++ remG (l.drop (k + 1)) (k + 1) i = r) := Lib.hid (by have := HF.out; rw [if_neg hki, HDX.out] at this; rw [← this, List.append_assoc])
            have HXR : Hid (InR ((op, (A - 1), b, c, (n1, d), kd, bi, fr, ro, ov) : Ins)) := Lib.hid (HDX.out ▸ HXD.out)
            have HUW : Hid (Up wr ((wr.alloc (.cells #[.int .i64 op, .int .i64 (A - 1), .int .i64 b, .int .i64 c, .int .i64 n1, .int .i64 d, .int .i64 kd, .int .i64 bi, .int .i64 fr, .int .i64 ro, .int .i64 ov] 64)).alloc (.cells #[.int .i64 op, .int .i64 (A - 1), .int .i64 b, .int .i64 c, .int .i64 n1, .int .i64 d, .int .i64 kd, .int .i64 bi, .int .i64 fr, .int .i64 ro, .int .i64 ov] 64))) := Lib.hid (((Up.refl wr).alloc (.cells #[.int .i64 op, .int .i64 (A - 1), .int .i64 b, .int .i64 c, .int .i64 n1, .int .i64 d, .int .i64 kd, .int .i64 bi, .int .i64 fr, .int .i64 ro, .int .i64 ov] 64)).alloc _)
            have HSL : Hid (SlAt ((wr.alloc (.cells #[.int .i64 op, .int .i64 (A - 1), .int .i64 b, .int .i64 c, .int .i64 n1, .int .i64 d, .int .i64 kd, .int .i64 bi, .int .i64 fr, .int .i64 ro, .int .i64 ov] 64)).alloc (.cells #[.int .i64 op, .int .i64 (A - 1), .int .i64 b, .int .i64 c, .int .i64 n1, .int .i64 d, .int .i64 kd, .int .i64 bi, .int .i64 fr, .int .i64 ro, .int .i64 ov] 64)) (.slice (some ⟨wr.heap.size + 1, 0, none⟩) 1 1) 1 11 (insF [((op, (A - 1), b, c, (n1, d), kd, bi, fr, ro, ov) : Ins)])) := Lib.hid (ins_one (wr.alloc (.cells #[.int .i64 op, .int .i64 (A - 1), .int .i64 b, .int .i64 c, .int .i64 n1, .int .i64 d, .int .i64 kd, .int .i64 bi, .int .i64 fr, .int .i64 ro, .int .i64 ov] 64)) 64 ((op, (A - 1), b, c, (n1, d), kd, bi, fr, ro, ov) : Ins) (by simp))
            clear HDX
            go_wp2_with (first | (go_at_call 45; refine (pe_jumps _ _ HJ.out _).mono ?_; rintro e' x' ⟨rfl, rfl⟩) | (at_builtin; refine wpList_append_sl _ rfl _ _ 22 rfl B 64 j0 _ 11 88 Tryd.underlying22 hi0 hz0 hz1 hz2 rfl (by decide) (.slice va m vc) m _ rfl (own_up' HOWN.out HUW.out) (.slice (some ⟨wr.heap.size + 1, 0, none⟩) 1 1) 1 _ rfl HSL.out (fun i j _ _ => rfl) (by unfold maxLen; omega) (by omega) (by have := HU.out.size; have := HB.out; simp; omega) ?_; intro v2 w1 hown1 hg1 hat1 hnil1; obtain ⟨vb, vd, rfl⟩ := own_slice hown1; have HO1 := Lib.hid hown1; have HG1 := Lib.hid hg1; clear hown1 hg1 hat1 hnil1))
            have HUN := Lib.hid ((HU.out.trans HUW.out).grown HG1.out fun g hg => by rw [HB.out]; exact own_base HOWN.out g hg)
            have HON : Hid (w1.ownsRow B 64 11 (.slice vb (m + 1) vd) (m + 1) (flat (insF (ys ++ [((op, (A - 1), b, c, (n1, d), kd, bi, fr, ro, ov) : Ins)])) (m + 1) 11)) := Lib.hid (by have := HO1.out; rw [← HM.out, ins_snoc, HM.out] at this; exact this)
            clear HO1 HG1
            try go_roundw
            case rel => exact ⟨k + 1, m + 1, ys ++ [((op, (A - 1), b, c, (n1, d), kd, bi, fr, ro, ov) : Ins)], by omega, by omega, by go_num, by rw [List.length_append, HM.out]; rfl, HON.out, (fun x h => (List.mem_append.1 h).elim (HYS.out x) fun h => by rw [List.mem_singleton.1 h]; exact HXR.out), HG.out, HUN.out⟩
            case measure => simp [intOf]; omega
          · have hAi2 : A ≤ i := by omega
            have HDX : Hid (decA (op, A, b, c, (n1, d), kd, bi, fr, ro, ov) i = ((op, A, b, c, (n1, d), kd, bi, fr, ro, ov) : Ins)) := Lib.hid (by simp [decA, HJ.out, hAi])
            have HG : Hid ((ys ++ [((op, A, b, c, (n1, d), kd, bi, fr, ro, ov) : Ins)]) ++ remG (l.drop (k + 1)) (k + 1) i = r) := Lib.hid (by have := HF.out; rw [if_neg hki, HDX.out] at this; rw [← this, List.append_assoc])
            have HXR : Hid (InR ((op, A, b, c, (n1, d), kd, bi, fr, ro, ov) : Ins)) := Lib.hid (HDX.out ▸ HXD.out)
            have HUW : Hid (Up wr ((wr.alloc (.cells #[.int .i64 op, .int .i64 A, .int .i64 b, .int .i64 c, .int .i64 n1, .int .i64 d, .int .i64 kd, .int .i64 bi, .int .i64 fr, .int .i64 ro, .int .i64 ov] 64)).alloc (.cells #[.int .i64 op, .int .i64 A, .int .i64 b, .int .i64 c, .int .i64 n1, .int .i64 d, .int .i64 kd, .int .i64 bi, .int .i64 fr, .int .i64 ro, .int .i64 ov] 64))) := Lib.hid (((Up.refl wr).alloc (.cells #[.int .i64 op, .int .i64 A, .int .i64 b, .int .i64 c, .int .i64 n1, .int .i64 d, .int .i64 kd, .int .i64 bi, .int .i64 fr, .int .i64 ro, .int .i64 ov] 64)).alloc _)
            have HSL : Hid (SlAt ((wr.alloc (.cells #[.int .i64 op, .int .i64 A, .int .i64 b, .int .i64 c, .int .i64 n1, .int .i64 d, .int .i64 kd, .int .i64 bi, .int .i64 fr, .int .i64 ro, .int .i64 ov] 64)).alloc (.cells #[.int .i64 op, .int .i64 A, .int .i64 b, .int .i64 c, .int .i64 n1, .int .i64 d, .int .i64 kd, .int .i64 bi, .int .i64 fr, .int .i64 ro, .int .i64 ov] 64)) (.slice (some ⟨wr.heap.size + 1, 0, none⟩) 1 1) 1 11 (insF [((op, A, b, c, (n1, d), kd, bi, fr, ro, ov) : Ins)])) := Lib.hid (ins_one (wr.alloc (.cells #[.int .i64 op, .int .i64 A, .int .i64 b, .int .i64 c, .int .i64 n1, .int .i64 d, .int .i64 kd, .int .i64 bi, .int .i64 fr, .int .i64 ro, .int .i64 ov] 64)) 64 ((op, A, b, c, (n1, d), kd, bi, fr, ro, ov) : Ins) (by simp))
            clear HDX
            go_wp2_with (first | (go_at_call 45; refine (pe_jumps _ _ HJ.out _).mono ?_; rintro e' x' ⟨rfl, rfl⟩) | (at_builtin; refine wpList_append_sl _ rfl _ _ 22 rfl B 64 j0 _ 11 88 Tryd.underlying22 hi0 hz0 hz1 hz2 rfl (by decide) (.slice va m vc) m _ rfl (own_up' HOWN.out HUW.out) (.slice (some ⟨wr.heap.size + 1, 0, none⟩) 1 1) 1 _ rfl HSL.out (fun i j _ _ => rfl) (by unfold maxLen; omega) (by omega) (by have := HU.out.size; have := HB.out; simp; omega) ?_; intro v2 w1 hown1 hg1 hat1 hnil1; obtain ⟨vb, vd, rfl⟩ := own_slice hown1; have HO1 := Lib.hid hown1; have HG1 := Lib.hid hg1; clear hown1 hg1 hat1 hnil1))
            have HUN := Lib.hid ((HU.out.trans HUW.out).grown HG1.out fun g hg => by rw [HB.out]; exact own_base HOWN.out g hg)
            have HON : Hid (w1.ownsRow B 64 11 (.slice vb (m + 1) vd) (m + 1) (flat (insF (ys ++ [((op, A, b, c, (n1, d), kd, bi, fr, ro, ov) : Ins)])) (m + 1) 11)) := Lib.hid (by have := HO1.out; rw [← HM.out, ins_snoc, HM.out] at this; exact this)
            clear HO1 HG1
            try go_roundw
            case rel => exact ⟨k + 1, m + 1, ys ++ [((op, A, b, c, (n1, d), kd, bi, fr, ro, ov) : Ins)], by omega, by omega, by go_num, by rw [List.length_append, HM.out]; rfl, HON.out, (fun x h => (List.mem_append.1 h).elim (HYS.out x) fun h => by rw [List.mem_singleton.1 h]; exact HXR.out), HG.out, HUN.out⟩
            case measure => simp [intOf]; omega
    · obtain rfl : k = n := by omega
      have HG : Hid (r = ys) := Lib.hid (by rw [← hf, List.drop_eq_nil_of_le (by rw [HN.out]; omega)]; simp [remG])
      clear hf
      go_wp2
      go_ret
      exact ret_v ⟨HU.out, HG.out ▸ InsAt.of_own HOWN.out HM.out (by omega) HYS.out, HB.out ▸ Fresh.own HOWN.out⟩

set_option maxHeartbeats 8000000 in
theorem r50_remove (v : Value) (l : List Ins) (i : Int) (w : World) (hv : InsAt w v l) (hi : 0 ≤ i) (hlen : l.length ≤ 100000) :
    Calls Tryd.prog 30 #[v, .int .i64 i] w fun e w' => ∃ v', e = .returned v' ∧ Up w w' ∧ InsAt w' v' (remF l i) ∧ Fresh w.heap.size v' := by
  obtain ⟨j0, hi0, hz0, hz1, hz2⟩ := info_parts ins_info
  obtain ⟨r, hr⟩ : ∃ r, remF l i = r := ⟨_, rfl⟩
  rw [hr]
  have HV := Lib.hid hv
  obtain ⟨⟨a, cap, rfl⟩, hmax⟩ := hv.slice
  obtain ⟨n, hn⟩ : ∃ n, l.length = n := ⟨_, rfl⟩
  rw [hn] at hmax hlen ⊢
  have HN := Lib.hid hn
  have HR : Hid (remG l 0 i = r) := Lib.hid hr
  obtain ⟨B, hB⟩ : ∃ B, w.heap.size = B := ⟨_, rfl⟩
  have HB := Lib.hid hB
  clear hn hr hv hB
  have hmI : (n : Int) ≤ 100000 := by omega
  go_enter Tryd.func30, Tryd.ntmps30
  go_wp2
  go_loopw [5, 6] (fun ov kv wr => ∃ (k m : Nat) (ys : List Ins), k ≤ n ∧ m ≤ k ∧ kv = .int .i64 k ∧ ys.length = m ∧ wr.ownsRow B 64 11 ov m (flat (insF ys) m 11) ∧ (∀ x ∈ ys, InR x) ∧ ys ++ remG (l.drop k) k i = r ∧ Up w wr) (fun _ kv _ => n - (intOf kv).toNat)
  case atStart => exact ⟨0, 0, [], by omega, by omega, rfl, rfl, World.ownsRow_nil _ _ _ _, (fun x h => by cases h), by rw [List.drop_zero]; exact HR.out, Up.refl w⟩
  case round =>
    rename World => wr
    obtain ⟨k, m, ys, hk, hmk, rfl, hm, hown, hys, hf, hU⟩ := hrel
    obtain ⟨va, vc, rfl⟩ := own_slice hown
    have HOWN := Lib.hid hown
    have HYS := Lib.hid hys
    have HU := Lib.hid hU
    have HM := Lib.hid hm
    clear hown hys hU hm
    by_cases hlt : k < n
    · have hltI : (k : Int) < n := by omega
      obtain ⟨x, hx⟩ : ∃ x, l.getD k i0 = x := ⟨_, rfl⟩
      obtain ⟨bl, off, ha, hbl, ⟨k0, k1, k2, k3, k4, k5, k6, k7, k8, k9, k10⟩, hxr⟩ := HV.out.elem HU.out k (by rw [HN.out]; exact hlt) HN.out (by rw [HN.out]) hx
      subst ha
      have hb1 : bl < wr.heap.size := Nat.lt_of_lt_of_le hbl HU.out.size
      have hd := drop_ins HN.out hlt hx
      rw [hd, remG_cons] at hf
      have HXD := Lib.hid (InR.dec hxr hi)
      have hA := hxr 1
      clear hd hbl hx
      obtain ⟨op, A, b, c, ⟨n1, d⟩, kd, bi, fr, ro, ov⟩ := x
      have hA : R64 A := hA
      dsimp only at k0 k1 k2 k3 k4 k5 k6 k7 k8 k9 k10
      have HF := Lib.hid hf
      clear hf hxr
      by_cases hki : (k : Int) = i
      · have HG : Hid (ys ++ remG (l.drop (k + 1)) (k + 1) i = r) := Lib.hid (by have := HF.out; rw [if_pos hki] at this; exact this)
        subst hki
        have hkb : ((k : Int) != (k : Int)) = false := by simp
        have hkI := hi
        obtain ⟨jj, hj⟩ : ∃ jj, jumpsB op = jj := ⟨_, rfl⟩
        have HJ := Lib.hid hj
        clear hj
        cases jj
        · have hAi : True := trivial
          go_wp2_with (go_at_call 31; refine (r47_Jumps _ _ HJ.out _).mono ?_; rintro e' x' ⟨rfl, rfl⟩)
          go_roundw
          case rel => exact ⟨k + 1, m, ys, by omega, by omega, by go_num, HM.out, own_up' HOWN.out ((Up.refl wr).alloc (.cells #[.int .i64 op, .int .i64 A, .int .i64 b, .int .i64 c, .int .i64 n1, .int .i64 d, .int .i64 kd, .int .i64 bi, .int .i64 fr, .int .i64 ro, .int .i64 ov] 64)), HYS.out, HG.out, HU.out.trans ((Up.refl wr).alloc (.cells #[.int .i64 op, .int .i64 A, .int .i64 b, .int .i64 c, .int .i64 n1, .int .i64 d, .int .i64 kd, .int .i64 bi, .int .i64 fr, .int .i64 ro, .int .i64 ov] 64))⟩
          case measure => simp [intOf]; omega
        · by_cases hAi : (k : Int) < A
          · have hwr := R64.dec hA hi hAi
            go_wp2_with (go_at_call 31; refine (r47_Jumps _ _ HJ.out _).mono ?_; rintro e' x' ⟨rfl, rfl⟩)
            go_roundw
            case rel => exact ⟨k + 1, m, ys, by omega, by omega, by go_num, HM.out, own_up' HOWN.out ((Up.refl wr).alloc (.cells #[.int .i64 op, .int .i64 (A - 1), .int .i64 b, .int .i64 c, .int .i64 n1, .int .i64 d, .int .i64 kd, .int .i64 bi, .int .i64 fr, .int .i64 ro, .int .i64 ov] 64)), HYS.out, HG.out, HU.out.trans ((Up.refl wr).alloc (.cells #[.int .i64 op, .int .i64 (A - 1), .int .i64 b, .int .i64 c, .int .i64 n1, .int .i64 d, .int .i64 kd, .int .i64 bi, .int .i64 fr, .int .i64 ro, .int .i64 ov] 64))⟩
            case measure => simp [intOf]; omega
          · have hAi2 : A ≤ (k : Int) := by omega
            go_wp2_with (go_at_call 31; refine (r47_Jumps _ _ HJ.out _).mono ?_; rintro e' x' ⟨rfl, rfl⟩)
            go_roundw
            case rel => exact ⟨k + 1, m, ys, by omega, by omega, by go_num, HM.out, own_up' HOWN.out ((Up.refl wr).alloc (.cells #[.int .i64 op, .int .i64 A, .int .i64 b, .int .i64 c, .int .i64 n1, .int .i64 d, .int .i64 kd, .int .i64 bi, .int .i64 fr, .int .i64 ro, .int .i64 ov] 64)), HYS.out, HG.out, HU.out.trans ((Up.refl wr).alloc (.cells #[.int .i64 op, .int .i64 A, .int .i64 b, .int .i64 c, .int .i64 n1, .int .i64 d, .int .i64 kd, .int .i64 bi, .int .i64 fr, .int .i64 ro, .int .i64 ov] 64))⟩
            case measure => simp [intOf]; omega
      · have hkb : ((k : Int) == i) = false := by simpa using hki
        have hkb2 : ((k : Int) != i) = true := by simpa using hki
        obtain ⟨jj, hj⟩ : ∃ jj, jumpsB op = jj := ⟨_, rfl⟩
        have HJ := Lib.hid hj
        clear hj
        cases jj
        · have hAi : True := trivial
          have HDX : Hid (decA (op, A, b, c, (n1, d), kd, bi, fr, ro, ov) i = ((op, A, b, c, (n1, d), kd, bi, fr, ro, ov) : Ins)) := Lib.hid (by simp [decA, HJ.out, hAi])
          have HG : Hid ((ys ++ [((op, A, b, c, (n1, d), kd, bi, fr, ro, ov) : Ins)]) ++ remG (l.drop (k + 1)) (k + 1) i = r) := Lib.hid (by have := HF.out; rw [if_neg hki, HDX.out] at this; rw [← this, List.append_assoc])
          have HXR : Hid (InR ((op, A, b, c, (n1, d), kd, bi, fr, ro, ov) : Ins)) := Lib.hid (HDX.out ▸ HXD.out)
          have HUW : Hid (Up wr ((wr.alloc (.cells #[.int .i64 op, .int .i64 A, .int .i64 b, .int .i64 c, .int .i64 n1, .int .i64 d, .int .i64 kd, .int .i64 bi, .int .i64 fr, .int .i64 ro, .int .i64 ov] 64)).alloc (.cells #[.int .i64 op, .int .i64 A, .int .i64 b, .int .i64 c, .int .i64 n1, .int .i64 d, .int .i64 kd, .int .i64 bi, .int .i64 fr, .int .i64 ro, .int .i64 ov] 64))) := Lib.hid (((Up.refl wr).alloc (.cells #[.int .i64 op, .int .i64 A, .int .i64 b, .int .i64 c, .int .i64 n1, .int .i64 d, .int .i64 kd, .int .i64 bi, .int .i64 fr, .int .i64 ro, .int .i64 ov] 64)).alloc _)
          have HSL : Hid (SlAt ((wr.alloc (.cells #[.int .i64 op, .int .i64 A, .int .i64 b, .int .i64 c, .int .i64 n1, .int .i64 d, .int .i64 kd, .int .i64 bi, .int .i64 fr, .int .i64 ro, .int .i64 ov] 64)).alloc (.cells #[.int .i64 op, .int .i64 A, .int .i64 b, .int .i64 c, .int .i64 n1, .int .i64 d, .int .i64 kd, .int .i64 bi, .int .i64 fr, .int .i64 ro, .int .i64 ov] 64)) (.slice (some ⟨wr.heap.size + 1, 0, none⟩) 1 1) 1 11 (insF [((op, A, b, c, (n1, d), kd, bi, fr, ro, ov) : Ins)])) := Lib.hid (ins_one (wr.alloc (.cells #[.int .i64 op, .int .i64 A, .int .i64 b, .int .i64 c, .int .i64 n1, .int .i64 d, .int .i64 kd, .int .i64 bi, .int .i64 fr, .int .i64 ro, .int .i64 ov] 64)) 64 ((op, A, b, c, (n1, d), kd, bi, fr, ro, ov) : Ins) (by simp))
          clear HDX
          go_wp2_with (first | (go_at_call 31; refine (r47_Jumps _ _ HJ.out _).mono ?_; rintro e' x' ⟨rfl, rfl⟩) | (at_builtin; refine wpList_append_sl _ rfl _ _ 22 rfl B 64 j0 _ 11 88 Tryd.underlying22 hi0 hz0 hz1 hz2 rfl (by decide) (.slice va m vc) m _ rfl (own_up' HOWN.out HUW.out) (.slice (some ⟨wr.heap.size + 1, 0, none⟩) 1 1) 1 _ rfl HSL.out (fun i j _ _ => rfl) (by unfold maxLen; omega) (by omega) (by have := HU.out.size; have := HB.out; simp; omega) ?_; intro v2 w1 hown1 hg1 hat1 hnil1; obtain ⟨vb, vd, rfl⟩ := own_slice hown1; have HO1 := Lib.hid hown1; have HG1 := Lib.hid hg1; clear hown1 hg1 hat1 hnil1))
          have HUN := Lib.hid ((HU.out.trans HUW.out).grown HG1.out fun g hg => by rw [HB.out]; exact own_base HOWN.out g hg)
          have HON : Hid (w1.ownsRow B 64 11 (.slice vb (m + 1) vd) (m + 1) (flat (insF (ys ++ [((op, A, b, c, (n1, d), kd, bi, fr, ro, ov) : Ins)])) (m + 1) 11)) := Lib.hid (by have := HO1.out; rw [← HM.out, ins_snoc, HM.out] at this; exact this)
          clear HO1 HG1
          try go_roundw
          case rel => exact ⟨k + 1, m + 1, ys ++ [((op, A, b, c, (n1, d), kd, bi, fr, ro, ov) : Ins)], by omega, by omega, by go_num, by rw [List.length_append, HM.out]; rfl, HON.out, (fun x h => (List.mem_append.1 h).elim (HYS.out x) fun h => by rw [List.mem_singleton.1 h]; exact HXR.out), HG.out, HUN.out⟩
          case measure => simp [intOf]; omega
        · by_cases hAi : i < A
          · have hwr := R64.dec hA hi hAi
            have HDX : Hid (decA (op, A, b, c, (n1, d), kd, bi, fr, ro, ov) i = ((op, (A - 1), b, c, (n1, d), kd, bi, fr, ro, ov) : Ins)) := Lib.hid (by simp [decA, HJ.out, hAi])
            have HG : Hid ((ys ++ [((op, (A - 1), b, c, (n1, d), kd, bi, fr, ro, ov) : Ins)]) ++ remG (l.drop (k + 1)) (k + 1) i = r) := Lib.hid (by have := HF.out; rw [if_neg hki, HDX.out] at this; rw [← this, List.append_assoc])
            have HXR : Hid (InR ((op, (A - 1), b, c, (n1, d), kd, bi, fr, ro, ov) : Ins)) := Lib.hid (HDX.out ▸ HXD.out)
            have HUW : Hid (Up wr ((wr.alloc (.cells #[.int .i64 op, .int .i64 (A - 1), .int .i64 b, .int .i64 c, .int .i64 n1, .int .i64 d, .int .i64 kd, .int .i64 bi, .int .i64 fr, .int .i64 ro, .int .i64 ov] 64)).alloc (.cells #[.int .i64 op, .int .i64 (A - 1), .int .i64 b, .int .i64 c, .int .i64 n1, .int .i64 d, .int .i64 kd, .int .i64 bi, .int .i64 fr, .int .i64 ro, .int .i64 ov] 64))) := Lib.hid (((Up.refl wr).alloc (.cells #[.int .i64 op, .int .i64 (A - 1), .int .i64 b, .int .i64 c, .int .i64 n1, .int .i64 d, .int .i64 kd, .int .i64 bi, .int .i64 fr, .int .i64 ro, .int .i64 ov] 64)).alloc _)
            have HSL : Hid (SlAt ((wr.alloc (.cells #[.int .i64 op, .int .i64 (A - 1), .int .i64 b, .int .i64 c, .int .i64 n1, .int .i64 d, .int .i64 kd, .int .i64 bi, .int .i64 fr, .int .i64 ro, .int .i64 ov] 64)).alloc (.cells #[.int .i64 op, .int .i64 (A - 1), .int .i64 b, .int .i64 c, .int .i64 n1, .int .i64 d, .int .i64 kd, .int .i64 bi, .int .i64 fr, .int .i64 ro, .int .i64 ov] 64)) (.slice (some ⟨wr.heap.size + 1, 0, none⟩) 1 1) 1 11 (insF [((op, (A - 1), b, c, (n1, d), kd, bi, fr, ro, ov) : Ins)])) := Lib.hid (ins_one (wr.alloc (.cells #[.int .i64 op, .int .i64 (A - 1), .int .i64 b, .int .i64 c, .int .i64 n1, .int .i64 d, .int .i64 kd, .int .i64 bi, .int .i64 fr, .int .i64 ro, .int .i64 ov] 64)) 64 ((op, (A - 1), b, c, (n1, d), kd, bi, fr, ro, ov) : Ins) (by simp))
            clear HDX
            go_wp2_with (first | (go_at_call 31; refine (r47_Jumps _ _ HJ.out _).mono ?_; rintro e' x' ⟨rfl, rfl⟩) | (at_builtin; refine wpList_append_sl _ rfl _ _ 22 rfl B 64 j0 _ 11 88 Tryd.underlying22 hi0 hz0 hz1 hz2 rfl (by decide) (.slice va m vc) m _ rfl (own_up' HOWN.out HUW.out) (.slice (some ⟨wr.heap.size + 1, 0, none⟩) 1 1) 1 _ rfl HSL.out (fun i j _ _ => rfl) (by unfold maxLen; omega) (by omega) (by have := HU.out.size; have := HB.out; simp; omega) ?_; intro v2 w1 hown1 hg1 hat1 hnil1; obtain ⟨vb, vd, rfl⟩ := own_slice hown1; have HO1 := Lib.hid hown1; have HG1 := Lib.hid hg1; clear hown1 hg1 hat1 hnil1))
            have HUN := Lib.hid ((HU.out.trans HUW.out).grown HG1.out fun g hg => by rw [HB.out]; exact own_base HOWN.out g hg)
            have HON : Hid (w1.ownsRow B 64 11 (.slice vb (m + 1) vd) (m + 1) (flat (insF (ys ++ [((op, (A - 1), b, c, (n1, d), kd, bi, fr, ro, ov) : Ins)])) (m + 1) 11)) := Lib.hid (by have := HO1.out; rw [← HM.out, ins_snoc, HM.out] at this; exact this)
            clear HO1 HG1
            try go_roundw
            case rel => exact ⟨k + 1, m + 1, ys ++ [((op, (A - 1), b, c, (n1, d), kd, bi, fr, ro, ov) : Ins)], by omega, by omega, by go_num, by rw [List.length_append, HM.out]; rfl, HON.out, (fun x h => (List.mem_append.1 h).elim (HYS.out x) fun h => by rw [List.mem_singleton.1 h]; exact HXR.out), HG.out, HUN.out⟩
            case measure => simp [intOf]; omega
          · have hAi2 : A ≤ i := by omega
            have HDX : Hid (decA (op, A, b, c, (n1, d), kd, bi, fr, ro, ov) i = ((op, A, b, c, (n1, d), kd, bi, fr, ro, ov) : Ins)) := Lib.hid (by simp [decA, HJ.out, hAi])
            have HG : Hid ((ys ++ [((op, A, b, c, (n1, d), kd, bi, fr, ro, ov) : Ins)]) ++ remG (l.drop (k + 1)) (k + 1) i = r) := Lib.hid (by have := HF.out; rw [if_neg hki, HDX.out] at this; rw [← this, List.append_assoc])
            have HXR : Hid (InR ((op, A, b, c, (n1, d), kd, bi, fr, ro, ov) : Ins)) := Lib.hid (HDX.out ▸ HXD.out)
            have HUW : Hid (Up wr ((wr.alloc (.cells #[.int .i64 op, .int .i64 A, .int .i64 b, .int .i64 c, .int .i64 n1, .int .i64 d, .int .i64 kd, .int .i64 bi, .int .i64 fr, .int .i64 ro, .int .i64 ov] 64)).alloc (.cells #[.int .i64 op, .int .i64 A, .int .i64 b, .int .i64 c, .int .i64 n1, .int .i64 d, .int .i64 kd, .int .i64 bi, .int .i64 fr, .int .i64 ro, .int .i64 ov] 64))) := Lib.hid (((Up.refl wr).alloc (.cells #[.int .i64 op, .int .i64 A, .int .i64 b, .int .i64 c, .int .i64 n1, .int .i64 d, .int .i64 kd, .int .i64 bi, .int .i64 fr, .int .i64 ro, .int .i64 ov] 64)).alloc _)
            have HSL : Hid (SlAt ((wr.alloc (.cells #[.int .i64 op, .int .i64 A, .int .i64 b, .int .i64 c, .int .i64 n1, .int .i64 d, .int .i64 kd, .int .i64 bi, .int .i64 fr, .int .i64 ro, .int .i64 ov] 64)).alloc (.cells #[.int .i64 op, .int .i64 A, .int .i64 b, .int .i64 c, .int .i64 n1, .int .i64 d, .int .i64 kd, .int .i64 bi, .int .i64 fr, .int .i64 ro, .int .i64 ov] 64)) (.slice (some ⟨wr.heap.size + 1, 0, none⟩) 1 1) 1 11 (insF [((op, A, b, c, (n1, d), kd, bi, fr, ro, ov) : Ins)])) := Lib.hid (ins_one (wr.alloc (.cells #[.int .i64 op, .int .i64 A, .int .i64 b, .int .i64 c, .int .i64 n1, .int .i64 d, .int .i64 kd, .int .i64 bi, .int .i64 fr, .int .i64 ro, .int .i64 ov] 64)) 64 ((op, A, b, c, (n1, d), kd, bi, fr, ro, ov) : Ins) (by simp))
            clear HDX
            go_wp2_with (first | (go_at_call 31; refine (r47_Jumps _ _ HJ.out _).mono ?_; rintro e' x' ⟨rfl, rfl⟩) | (at_builtin; refine wpList_append_sl _ rfl _ _ 22 rfl B 64 j0 _ 11 88 Tryd.underlying22 hi0 hz0 hz1 hz2 rfl (by decide) (.slice va m vc) m _ rfl (own_up' HOWN.out HUW.out) (.slice (some ⟨wr.heap.size + 1, 0, none⟩) 1 1) 1 _ rfl HSL.out (fun i j _ _ => rfl) (by unfold maxLen; omega) (by omega) (by have := HU.out.size; have := HB.out; simp; omega) ?_; intro v2 w1 hown1 hg1 hat1 hnil1; obtain ⟨vb, vd, rfl⟩ := own_slice hown1; have HO1 := Lib.hid hown1; have HG1 := Lib.hid hg1; clear hown1 hg1 hat1 hnil1))
            have HUN := Lib.hid ((HU.out.trans HUW.out).grown HG1.out fun g hg => by rw [HB.out]; exact own_base HOWN.out g hg)
            have HON : Hid (w1.ownsRow B 64 11 (.slice vb (m + 1) vd) (m + 1) (flat (insF (ys ++ [((op, A, b, c, (n1, d), kd, bi, fr, ro, ov) : Ins)])) (m + 1) 11)) := Lib.hid (by have := HO1.out; rw [← HM.out, ins_snoc, HM.out] at this; exact this)
            clear HO1 HG1
            try go_roundw
            case rel => exact ⟨k + 1, m + 1, ys ++ [((op, A, b, c, (n1, d), kd, bi, fr, ro, ov) : Ins)], by omega, by omega, by go_num, by rw [List.length_append, HM.out]; rfl, HON.out, (fun x h => (List.mem_append.1 h).elim (HYS.out x) fun h => by rw [List.mem_singleton.1 h]; exact HXR.out), HG.out, HUN.out⟩
            case measure => simp [intOf]; omega
    · obtain rfl : k = n := by omega
      have HG : Hid (r = ys) := Lib.hid (by rw [← hf, List.drop_eq_nil_of_le (by rw [HN.out]; omega)]; simp [remG])
      clear hf
      go_wp2
      go_ret
      exact ret_v ⟨HU.out, HG.out ▸ InsAt.of_own HOWN.out HM.out (by omega) HYS.out, HB.out ▸ Fresh.own HOWN.out⟩
end Go.Proofs.YtbpojmhgifgfdaaDoor
