/-
  Relocate of the reference and of isa. Printed by mkIsRe.py.
-/
import Derived.Test.YtlglfdhiopnglaaGreatDoorIsSm
import Derived.Test.YtlglfdhiopnglaaGreatDoorPeP
namespace Go.Proofs.YtlglfdhiopnglaaGreatDoor
open Go.ChangeShapes Go.WideShapes Go.ChangeAt Go.RowKit
set_option linter.unusedVariables false
set_option linter.unusedSimpArgs false
set_option maxRecDepth 100000

def relI (by' : Int) (x : Ins) : Ins := if jumpsB x.1 then (x.1, IntKind.i64.wrap (x.2.1 + by'), x.2.2) else x
theorem wrapK_R (n : Int) : R64 (IntKind.i64.wrap n) := by
  rw [IntKind.wrap_i64]; unfold R64; omega
theorem relI_R {by' : Int} {x : Ins} (h : InR x) : InR (relI by' x) := by
  unfold relI
  split
  · exact InR.mk (h 0) (wrapK_R _) (h 2) (h 3) (h 4) (h 5) h.typ
  · exact h

set_option maxHeartbeats 8000000 in
theorem r47_Relocate (v : Value) (l : List Ins) (by' : Int) (w : World) (hv : InsAt w v l) (hlen : l.length ≤ 100000) :
    Calls Tryz.prog 24 #[v, .int .i64 by'] w fun e w' => ∃ v', e = .returned v' ∧ Up w w' ∧ InsAt w' v' (l.map (relI by')) := by
  obtain ⟨j0, hi0, hz0, hz1, hz2⟩ := info_parts ins_info
  obtain ⟨r, hr⟩ : ∃ r, l.map (relI by') = r := ⟨_, rfl⟩
  rw [hr]
  have HV := Lib.hid hv
  obtain ⟨⟨a, cap, rfl⟩, hmax⟩ := hv.slice
  obtain ⟨n, hn⟩ : ∃ n, l.length = n := ⟨_, rfl⟩
  rw [hn] at hmax hlen ⊢
  have HN := Lib.hid hn
  have HR : Hid (l.map (relI by') = r) := Lib.hid hr
  obtain ⟨B, hB⟩ : ∃ B, w.heap.size = B := ⟨_, rfl⟩
  have HB := Lib.hid hB
  clear hn hr hv hB
  have hmI : (n : Int) ≤ 100000 := by omega
  go_enter Tryz.func24, Tryz.ntmps24
  go_wp2
  go_loopw [5, 6] (fun ov kv wr => ∃ (k m : Nat) (ys : List Ins), k ≤ n ∧ m ≤ k ∧ kv = .int .i64 k ∧ ys.length = m ∧ wr.ownsRow B 42 11 ov m (flat (insF ys) m 11) ∧ (∀ x ∈ ys, InR x) ∧ ys ++ (l.drop k).map (relI by') = r ∧ Up w wr) (fun _ kv _ => n - (intOf kv).toNat)
  case atStart => exact ⟨0, 0, [], by omega, by omega, rfl, rfl, World.ownsRow_nil _ _ _ _, (fun x h => by cases h), by rw [List.drop_zero]; exact HR.out, Up.refl w⟩
  case round =>
    rename World => wr
    obtain ⟨k, m, ys, hk, hmk, rfl, hm, hown, hys, hf, hU⟩ := hrel
    obtain ⟨va, vc, rfl⟩ := own_slice hown
    have HOWN := Lib.hid hown
    have HYS := Lib.hid hys
    have HU := Lib.hid hU
    have HM := Lib.hid hm
    clear hown hys hU hm
    by_cases hlt : k < n
    · have hltI : (k : Int) < n := by omega
      obtain ⟨x, hx⟩ : ∃ x, l.getD k i0 = x := ⟨_, rfl⟩
      obtain ⟨bl, off, ha, hbl, ⟨k0, k1, k2, k3, k4, k5, k6, k7, k8, k9, k10⟩, hxr⟩ := HV.out.elem HU.out k (by rw [HN.out]; exact hlt) HN.out (by rw [HN.out]) hx
      subst ha
      have hb1 : bl < wr.heap.size := Nat.lt_of_lt_of_le hbl HU.out.size
      have hd := drop_ins HN.out hlt hx
      rw [hd, List.map_cons] at hf
      have HXD := Lib.hid (relI_R (by' := by') hxr)
      clear hd hbl hx
      obtain ⟨op, A, b, c, ⟨n1, d⟩, kd, bi, fr, ro, ov⟩ := x
      dsimp only at k0 k1 k2 k3 k4 k5 k6 k7 k8 k9 k10
      have HF := Lib.hid hf
      clear hf hxr
      obtain ⟨jj, hj⟩ : ∃ jj, jumpsB op = jj := ⟨_, rfl⟩
      have HJ := Lib.hid hj
      clear hj
      cases jj
      · have HRX : Hid (relI by' (op, A, b, c, (n1, d), kd, bi, fr, ro, ov) = ((op, A, b, c, (n1, d), kd, bi, fr, ro, ov) : Ins)) := Lib.hid (by simp [relI, HJ.out])
        have HG : Hid ((ys ++ [((op, A, b, c, (n1, d), kd, bi, fr, ro, ov) : Ins)]) ++ (l.drop (k + 1)).map (relI by') = r) := Lib.hid (by have := HF.out; rw [HRX.out] at this; rw [← this, List.append_assoc]; rfl)
        have HXR : Hid (InR ((op, A, b, c, (n1, d), kd, bi, fr, ro, ov) : Ins)) := Lib.hid (HRX.out ▸ HXD.out)
        have HUW : Hid (Up wr ((wr.alloc (.cells #[.int .i64 op, .int .i64 A, .int .i64 b, .int .i64 c, .int .i64 n1, .int .i64 d, .int .i64 kd, .int .i64 bi, .int .i64 fr, .int .i64 ro, .int .i64 ov] 42)).alloc (.cells #[.int .i64 op, .int .i64 A, .int .i64 b, .int .i64 c, .int .i64 n1, .int .i64 d, .int .i64 kd, .int .i64 bi, .int .i64 fr, .int .i64 ro, .int .i64 ov] 42))) := Lib.hid (((Up.refl wr).alloc (.cells #[.int .i64 op, .int .i64 A, .int .i64 b, .int .i64 c, .int .i64 n1, .int .i64 d, .int .i64 kd, .int .i64 bi, .int .i64 fr, .int .i64 ro, .int .i64 ov] 42)).alloc _)
        have HSL : Hid (SlAt ((wr.alloc (.cells #[.int .i64 op, .int .i64 A, .int .i64 b, .int .i64 c, .int .i64 n1, .int .i64 d, .int .i64 kd, .int .i64 bi, .int .i64 fr, .int .i64 ro, .int .i64 ov] 42)).alloc (.cells #[.int .i64 op, .int .i64 A, .int .i64 b, .int .i64 c, .int .i64 n1, .int .i64 d, .int .i64 kd, .int .i64 bi, .int .i64 fr, .int .i64 ro, .int .i64 ov] 42)) (.slice (some ⟨wr.heap.size + 1, 0, none⟩) 1 1) 1 11 (insF [((op, A, b, c, (n1, d), kd, bi, fr, ro, ov) : Ins)])) := Lib.hid (ins_one (wr.alloc (.cells #[.int .i64 op, .int .i64 A, .int .i64 b, .int .i64 c, .int .i64 n1, .int .i64 d, .int .i64 kd, .int .i64 bi, .int .i64 fr, .int .i64 ro, .int .i64 ov] 42)) 42 ((op, A, b, c, (n1, d), kd, bi, fr, ro, ov) : Ins) (by simp))
        clear HRX
        go_wp2_with (first | (go_at_call 29; refine (r47_Jumps _ _ HJ.out _).mono ?_; rintro e' x' ⟨rfl, rfl⟩) | (at_builtin; refine wpList_append_sl _ rfl _ _ 22 rfl B 42 j0 _ 11 88 Tryz.underlying22 hi0 hz0 hz1 hz2 rfl (by decide) (.slice va m vc) m _ rfl (own_up' HOWN.out HUW.out) (.slice (some ⟨wr.heap.size + 1, 0, none⟩) 1 1) 1 _ rfl HSL.out (fun i j _ _ => rfl) (by unfold maxLen; omega) (by omega) (by have := HU.out.size; have := HB.out; simp; omega) ?_; intro v2 w1 hown1 hg1 hat1 hnil1; obtain ⟨vb, vd, rfl⟩ := own_slice hown1; have HO1 := Lib.hid hown1; have HG1 := Lib.hid hg1; clear hown1 hg1 hat1 hnil1))
        have HUN := Lib.hid ((HU.out.trans HUW.out).grown HG1.out fun g hg => by rw [HB.out]; exact own_base HOWN.out g hg)
        have HON : Hid (w1.ownsRow B 42 11 (.slice vb (m + 1) vd) (m + 1) (flat (insF (ys ++ [((op, A, b, c, (n1, d), kd, bi, fr, ro, ov) : Ins)])) (m + 1) 11)) := Lib.hid (by have := HO1.out; rw [← HM.out, ins_snoc, HM.out] at this; exact this)
        clear HO1 HG1
        try go_roundw
        case rel => exact ⟨k + 1, m + 1, ys ++ [((op, A, b, c, (n1, d), kd, bi, fr, ro, ov) : Ins)], by omega, by omega, by go_num, by rw [List.length_append, HM.out]; rfl, HON.out, (fun x h => (List.mem_append.1 h).elim (HYS.out x) fun h => by rw [List.mem_singleton.1 h]; exact HXR.out), HG.out, HUN.out⟩
        case measure => simp [intOf]; omega

      · obtain ⟨q, hq⟩ : ∃ q, IntKind.i64.wrap (A + by') = q := ⟨_, rfl⟩
        have HRX : Hid (relI by' (op, A, b, c, (n1, d), kd, bi, fr, ro, ov) = ((op, q, b, c, (n1, d), kd, bi, fr, ro, ov) : Ins)) := Lib.hid (by simp [relI, HJ.out, hq])
        have HG : Hid ((ys ++ [((op, q, b, c, (n1, d), kd, bi, fr, ro, ov) : Ins)]) ++ (l.drop (k + 1)).map (relI by') = r) := Lib.hid (by have := HF.out; rw [HRX.out] at this; rw [← this, List.append_assoc]; rfl)
        have HXR : Hid (InR ((op, q, b, c, (n1, d), kd, bi, fr, ro, ov) : Ins)) := Lib.hid (HRX.out ▸ HXD.out)
        have HUW : Hid (Up wr ((wr.alloc (.cells #[.int .i64 op, .int .i64 q, .int .i64 b, .int .i64 c, .int .i64 n1, .int .i64 d, .int .i64 kd, .int .i64 bi, .int .i64 fr, .int .i64 ro, .int .i64 ov] 42)).alloc (.cells #[.int .i64 op, .int .i64 q, .int .i64 b, .int .i64 c, .int .i64 n1, .int .i64 d, .int .i64 kd, .int .i64 bi, .int .i64 fr, .int .i64 ro, .int .i64 ov] 42))) := Lib.hid (((Up.refl wr).alloc (.cells #[.int .i64 op, .int .i64 q, .int .i64 b, .int .i64 c, .int .i64 n1, .int .i64 d, .int .i64 kd, .int .i64 bi, .int .i64 fr, .int .i64 ro, .int .i64 ov] 42)).alloc _)
        have HSL : Hid (SlAt ((wr.alloc (.cells #[.int .i64 op, .int .i64 q, .int .i64 b, .int .i64 c, .int .i64 n1, .int .i64 d, .int .i64 kd, .int .i64 bi, .int .i64 fr, .int .i64 ro, .int .i64 ov] 42)).alloc (.cells #[.int .i64 op, .int .i64 q, .int .i64 b, .int .i64 c, .int .i64 n1, .int .i64 d, .int .i64 kd, .int .i64 bi, .int .i64 fr, .int .i64 ro, .int .i64 ov] 42)) (.slice (some ⟨wr.heap.size + 1, 0, none⟩) 1 1) 1 11 (insF [((op, q, b, c, (n1, d), kd, bi, fr, ro, ov) : Ins)])) := Lib.hid (ins_one (wr.alloc (.cells #[.int .i64 op, .int .i64 q, .int .i64 b, .int .i64 c, .int .i64 n1, .int .i64 d, .int .i64 kd, .int .i64 bi, .int .i64 fr, .int .i64 ro, .int .i64 ov] 42)) 42 ((op, q, b, c, (n1, d), kd, bi, fr, ro, ov) : Ins) (by simp))
        clear HRX
        go_wp2_with (first | (go_at_call 29; refine (r47_Jumps _ _ HJ.out _).mono ?_; rintro e' x' ⟨rfl, rfl⟩) | (at_builtin; refine wpList_append_sl _ rfl _ _ 22 rfl B 42 j0 _ 11 88 Tryz.underlying22 hi0 hz0 hz1 hz2 rfl (by decide) (.slice va m vc) m _ rfl (own_up' HOWN.out HUW.out) (.slice (some ⟨wr.heap.size + 1, 0, none⟩) 1 1) 1 _ rfl HSL.out (fun i j _ _ => rfl) (by unfold maxLen; omega) (by omega) (by have := HU.out.size; have := HB.out; simp; omega) ?_; intro v2 w1 hown1 hg1 hat1 hnil1; obtain ⟨vb, vd, rfl⟩ := own_slice hown1; have HO1 := Lib.hid hown1; have HG1 := Lib.hid hg1; clear hown1 hg1 hat1 hnil1))
        have HUN := Lib.hid ((HU.out.trans HUW.out).grown HG1.out fun g hg => by rw [HB.out]; exact own_base HOWN.out g hg)
        have HON : Hid (w1.ownsRow B 42 11 (.slice vb (m + 1) vd) (m + 1) (flat (insF (ys ++ [((op, q, b, c, (n1, d), kd, bi, fr, ro, ov) : Ins)])) (m + 1) 11)) := Lib.hid (by have := HO1.out; rw [← HM.out, ins_snoc, HM.out] at this; exact this)
        clear HO1 HG1
        try go_roundw
        case rel => exact ⟨k + 1, m + 1, ys ++ [((op, q, b, c, (n1, d), kd, bi, fr, ro, ov) : Ins)], by omega, by omega, by go_num, by rw [List.length_append, HM.out]; rfl, HON.out, (fun x h => (List.mem_append.1 h).elim (HYS.out x) fun h => by rw [List.mem_singleton.1 h]; exact HXR.out), HG.out, HUN.out⟩
        case measure => simp [intOf]; omega

    · obtain rfl : k = n := by omega
      have HG : Hid (r = ys) := Lib.hid (by rw [← hf, List.drop_eq_nil_of_le (by rw [HN.out]; omega)]; simp)
      clear hf
      go_wp2
      go_ret
      exact ret_v ⟨HU.out, HG.out ▸ InsAt.of_own HOWN.out HM.out (by omega) HYS.out⟩

set_option maxHeartbeats 4000000 in
theorem isa_Clone (v : Value) (l : List Ins) (w : World) (hv : InsAt w v l) (hlen : l.length ≤ 100000) :
    Calls Tryz.prog 48 #[v] w fun e w' => ∃ v', e = .returned v' ∧ Up w w' ∧ w'.ownsRow w.heap.size 42 11 v' l.length (flat (insF l) l.length 11) := by
  obtain ⟨j0, hi0, hz0, hz1, hz2⟩ := info_parts ins_info
  have HV := Lib.hid hv
  obtain ⟨⟨a, cap, rfl⟩, hmax⟩ := hv.slice
  obtain ⟨n, hn⟩ : ∃ n, l.length = n := ⟨_, rfl⟩
  rw [hn] at hmax hlen ⊢
  have HN := Lib.hid hn
  clear hn hv
  go_enter Tryz.func48, Tryz.ntmps48
  have q22 : ∀ (w : World) (a : Option Addr) (n c n' c' : Nat), (binOp .eql 22 (.slice a n c) (.slice none n' c')).run Tryz.prog w = .ok (.bool a.isNone) w := fun w a n c n' c' => Lib.run_eql_slice_nil w _ _ a n c n' c' Tryz.underlying22
  cases a with
  | none =>
    have h0 : n = 0 := by
      have h1 := HV.out.1
      obtain ⟨⟨a', c', e, h0, _⟩, _⟩ := h1
      simp only [Value.slice.injEq] at e
      have h2 := h0 e.1.symm
      rw [HN.out] at h2
      exact h2
    subst h0
    go_wp2
    go_ret
    exact ⟨_, rfl, Up.refl _, World.ownsRow_nil _ _ _ _⟩
  | some ad =>
    have hs : ((Option.some ad).isNone) = false := rfl
    have HAL : Hid (Up w (w.alloc (.cells #[] 42))) := Lib.hid ((Up.refl w).alloc _)
    have HSL : Hid (SlAt (w.alloc (.cells #[] 42)) (.slice (some ad) n cap) n 11 (insF l)) := Lib.hid (by have := (HV.out.1).up HAL.out; rw [HN.out] at this; exact this)
    go_wp2_with (at_builtin; refine wpList_append_sl _ rfl _ _ 22 rfl w.heap.size 42 j0 _ 11 88 Tryz.underlying22 hi0 hz0 hz1 hz2 rfl (by decide) _ 0 [] rfl (World.ownsRow_made w #[] 0 (Nat.le_refl _) (Nat.zero_le _) rfl) (.slice (some ad) n cap) n _ rfl HSL.out (fun i j _ _ => rfl) (by unfold maxLen; omega) (by omega) (by simp) ?_; intro v2 w1 hown1 hg1 hat1 hnil1; obtain ⟨vb, vd, rfl⟩ := own_slice hown1; have HO1 := Lib.hid hown1; have HG1 := Lib.hid hg1; clear hown1 hg1 hat1 hnil1)
    go_ret
    refine ⟨_, rfl, HAL.out.grown HG1.out (fun g hg => ?_), ?_⟩
    · have h1 : w.heap.size = g := Option.some.inj hg
      omega
    · have := HO1.out
      simpa using this

theorem set_same (ys : List Ins) (k : Nat) (x : Ins) (hk : k < ys.length) (hx : ys.getD k i0 = x) : ys.set k x = ys := by
  have hx2 : ys[k] = x := by rw [← hx, List.getD_eq_getElem?_getD, List.getElem?_eq_getElem hk]; rfl
  rw [← hx2]; exact List.set_getElem_self hk
theorem rel_step {f : Ins → Ins} {ys r : List Ins} {k : Nat} {x y : Ins} (hk : k < ys.length) (hx : ys.getD k i0 = x) (h : ys.take k ++ (ys.drop k).map f = r) (hf : f x = y) : (ys.set k y).take (k + 1) ++ ((ys.set k y).drop (k + 1)).map f = r := by
  have hx2 : ys[k] = x := by rw [← hx, List.getD_eq_getElem?_getD, List.getElem?_eq_getElem hk]; rfl
  rw [List.drop_eq_getElem_cons hk, List.map_cons, hx2, hf] at h
  have hl : k < (ys.set k y).length := by rw [List.length_set]; exact hk
  rw [List.take_succ_eq_append_getElem hl, List.getElem_set_self, List.take_set_of_le (Nat.le_refl k), List.drop_set_of_lt (Nat.lt_succ_self k), ← h, List.append_assoc]; rfl

set_option maxHeartbeats 8000000 in
theorem isa_Relocate (v : Value) (l : List Ins) (by' : Int) (w : World) (hv : InsAt w v l) (hlen : l.length ≤ 100000) (hT : ITab w) :
    Calls Tryz.prog 23 #[v, .int .i64 by'] w fun e w' => ∃ v', e = .returned v' ∧ Up w w' ∧ InsAt w' v' (l.map (relI by')) := by
  obtain ⟨r, hr⟩ : ∃ r, l.map (relI by') = r := ⟨_, rfl⟩
  rw [hr]
  have HCL := Lib.hid (isa_Clone v l w hv hlen)
  have HLR := Lib.hid hv.2
  obtain ⟨⟨a, cap, rfl⟩, hmax⟩ := hv.slice
  obtain ⟨n, hn⟩ : ∃ n, l.length = n := ⟨_, rfl⟩
  rw [hn] at hmax hlen HCL ⊢
  have HN := Lib.hid hn
  have HR : Hid (l.map (relI by') = r) := Lib.hid hr
  have HT := Lib.hid hT
  obtain ⟨B, hB⟩ : ∃ B, w.heap.size = B := ⟨_, rfl⟩
  rw [hB] at HCL
  have HB := Lib.hid hB
  clear hn hr hv hB hT
  have hmI : (n : Int) ≤ 100000 := by omega
  go_enter Tryz.func23, Tryz.ntmps23
  go_wp2_with (go_at_call 48; refine HCL.out.mono ?_; rintro e z ⟨v1, rfl, hz, hown⟩; obtain ⟨va, vc, rfl⟩ := own_slice hown; have HUZ := Lib.hid hz; have HOZ := Lib.hid hown; clear hz hown)
  go_loopw [11] (fun kv wr => ∃ (k : Nat) (ys : List Ins), k ≤ n ∧ kv = .int .i64 k ∧ ys.length = n ∧ wr.ownsRow B 42 11 (.slice va n vc) n (flat (insF ys) n 11) ∧ (∀ x ∈ ys, InR x) ∧ ys.take k ++ (ys.drop k).map (relI by') = r ∧ Up w wr) (fun kv _ => n - (intOf kv).toNat)
  case atStart => exact ⟨0, l, by omega, rfl, HN.out, HOZ.out, HLR.out, by rw [List.take_zero, List.drop_zero, List.nil_append]; exact HR.out, HUZ.out⟩
  case round =>
    rename World => wr
    obtain ⟨k, ys, hk, rfl, hyl, hown, hys, hf, hU⟩ := hrel
    have HOWN := Lib.hid hown
    have HYS := Lib.hid hys
    have HU := Lib.hid hU
    have HYL := Lib.hid hyl
    have HF := Lib.hid hf
    clear hown hys hU hyl hf HOZ HUZ HCL
    by_cases hlt : k < n
    · have hltI : (k : Int) < n := by omega
      obtain ⟨x, hx⟩ : ∃ x, ys.getD k i0 = x := ⟨_, rfl⟩
      have HX := Lib.hid hx
      obtain ⟨g, gc, hg, hgB, hgl, hgn, hgf, hgc⟩ := own_get HOWN.out (by omega)
      cases hg
      have gc0 := hgc (k * 11 + 0) _ (flat_get (insF ys) n 11 k 0 hlt (by omega))
      have gc1 := hgc (k * 11 + 1) _ (flat_get (insF ys) n 11 k 1 hlt (by omega))
      unfold insF at gc0 gc1
      rw [hx] at gc0 gc1
      have gc0 : wr.cell? ⟨g, k * 11, none⟩ = some (.int .i64 x.1) := gc0
      have gc1 : wr.cell? ⟨g, k * 11 + 1, none⟩ = some (.int .i64 x.2.1) := gc1
      have HGL := Lib.hid hgB
      obtain ⟨jj, hj⟩ : ∃ jj, jumpsB x.1 = jj := ⟨_, rfl⟩
      have HJ : Hid (∀ v, Up w v → Calls Tryz.prog 45 #[.int .i64 x.1] v fun e' w' => e' = .returned (.bool jj) ∧ Up v w') := Lib.hid (fun v hv => hj ▸ isa_jumps x.1 v (HT.out.up hv))
      have HJJ := Lib.hid hj
      clear hj hx hgc hgB
      cases jj
      · have HFX : Hid (relI by' x = x) := Lib.hid (by unfold relI; rw [HJJ.out]; rfl)
        go_wp2_with (go_at_call 45; refine (HJ.out _ HU.out).mono ?_; rintro e y ⟨rfl, hy⟩; have HY := Lib.hid hy; clear hy)
        go_roundw
        case rel => exact ⟨k + 1, ys.set k x, by omega, by go_num, by rw [List.length_set]; exact HYL.out, by rw [set_same ys k x (by rw [HYL.out]; exact hlt) HX.out]; exact own_up' HOWN.out HY.out, by rw [set_same ys k x (by rw [HYL.out]; exact hlt) HX.out]; exact HYS.out, rel_step (by rw [HYL.out]; exact hlt) HX.out HF.out HFX.out, HU.out.trans HY.out⟩
        case measure => simp [intOf]; omega
      · obtain ⟨q, hq⟩ : ∃ q, IntKind.i64.wrap (x.2.1 + by') = q := ⟨_, rfl⟩
        have HFX : Hid (relI by' x = (x.1, q, x.2.2)) := Lib.hid (by unfold relI; rw [HJJ.out, if_pos rfl, hq])
        have HQR : Hid (R64 q) := Lib.hid (hq ▸ wrapK_R _)
        go_upto_region 6 with (go_at_call 45; refine (HJ.out _ HU.out).mono ?_; rintro e y ⟨rfl, hy⟩; have HY := Lib.hid hy; clear hy)
        replace gc1 := cell_up HY.out gc1
        have hgf2 := fun o => (HY.out.frozen g o hgl).trans (hgf o)
        have HOY := Lib.hid (own_up' HOWN.out HY.out)
        have HS : Hid ((y.setCell ⟨g, k * 11 + 1, none⟩ (.int .i64 q)).ownsRow B 42 11 (.slice (some ⟨g, 0, none⟩) n vc) n (flat (insF (setA ys k q)) n 11)) := Lib.hid (by
          have := own_set HOY.out (k * 11 + 1) (by rw [flat_length]; omega) (.int .i64 q)
          rw [ins_set ys k n HYL.out hlt] at this
          exact this)
        clear gc0 hgf
        go_wp2
        go_roundw
        case rel => exact ⟨k + 1, setA ys k q, by omega, by go_num, by rw [setA_len]; exact HYL.out, HS.out, setA_R HYS.out HQR.out (by rw [HYL.out]; exact hlt), by
          have := rel_step (by rw [HYL.out]; exact hlt) HX.out HF.out HFX.out
          unfold setA
          rw [HX.out]
          exact this, (HU.out.trans HY.out).setCell (by rw [HB.out]; exact HGL.out) _⟩
        case measure => simp [intOf]; omega
    · obtain rfl : k = n := by omega
      have HG : Hid (r = ys) := Lib.hid (by rw [← HF.out, List.take_of_length_le (by rw [HYL.out]; omega), List.drop_eq_nil_of_le (by rw [HYL.out]; omega)]; simp)
      go_wp2
      go_ret
      exact ret_v ⟨HU.out, HG.out ▸ InsAt.of_own HOWN.out HYL.out (by omega) HYS.out⟩
end Go.Proofs.YtlglfdhiopnglaaGreatDoor
