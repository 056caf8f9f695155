/-
  frac: Parse. Printed by mkIsZ.py.
-/
import Derived.Test.YtlglfdhiopnglaaGreatDoorGf
namespace Go.Proofs.YtlglfdhiopnglaaGreatDoor
open Go.ChangeShapes Go.WideShapes Go.ChangeAt Go.RowKit
set_option linter.unusedVariables false
set_option linter.unusedSimpArgs false
set_option maxRecDepth 100000

theorem pintV_R (s : List UInt8) : R64 (pintV s) := by
  have z : R64 0 := ⟨by decide, by decide⟩
  have key : ∀ v, Lib.parseIntB 64 s = .ok v → R64 v := fun v h => by
    unfold Lib.parseIntB at h
    cases s with
    | nil => cases h
    | cons c r =>
      simp only at h
      split at h
      · cases h
      · cases h
      · rename_i u _
        have p : (2 : Nat) ^ (64 - 1) = 9223372036854775808 := by decide
        rw [p] at h
        split at h
        · cases h
        · rename_i h1
          split at h
          · cases h
          · rename_i h2
            injection h with h
            subst h
            unfold R64
            by_cases hn : c.toNat = 45
            · rw [if_pos hn]
              have : ¬ 9223372036854775808 < u := fun h => h2 ⟨hn, h⟩
              omega
            · rw [if_neg hn]
              have : ¬ 9223372036854775808 ≤ u := fun h => h1 ⟨hn, h⟩
              omega
  unfold pintV
  split
  · exact key _ (by assumption)
  · exact z
  · unfold Lib.intSat
    split <;> exact ⟨by decide, by decide⟩
def fprG (ng : Bool) (n d : Int × Bool) : (Int × Int) × Int :=
  if n.2 = false ∨ d.2 = false then ((0, 0), 3)
  else if validF (if ng then wrap64 (-n.1) else n.1) d.1 = false then ((0, 0), 5) else ((if ng then wrap64 (-n.1) else n.1, d.1), 0)
/-- Parse of frac: over what Cut and CutPrefix give. -/
def fprH (dg : List UInt8) (ng : Bool) (bt : List UInt8) (sl : Bool) : (Int × Int) × Int :=
  if decB dg = false ∨ (ng = true ∧ dg = [48]) then ((0, 0), 5)
  else if sl = true ∧ (decB bt = false ∨ bt = [48] ∨ bt = [49]) then ((0, 0), 5)
  else fprG ng (bndF dg) (bndF (if sl then bt else [49]))
def fprF (s : List UInt8) : (Int × Int) × Int := fprH (Lib.trimPrefix (Lib.cut s [47]).1 [45]) (Lib.hasPrefix (Lib.cut s [47]).1 [45]) (Lib.cut s [47]).2.1 (Lib.cut s [47]).2.2

theorem bndF_R (s : List UInt8) : R64 (bndF s).1 := by
  unfold bndF
  split
  · exact ⟨by decide, by decide⟩
  · exact pintV_R s
theorem wrap64_R (n : Int) : R64 (wrap64 n) := by
  unfold R64 wrap64
  omega
set_option maxHeartbeats 8000000 in
theorem frac_Parse (s : ByteArray) (hs : s.size ≤ 1000000) (w : World) (hR : RdW w)
    (l1 : (Lib.cut s.toList [47]).1.length ≤ 1000000) (l2 : (Lib.cut s.toList [47]).2.1.length ≤ 1000000) (l3 : (Lib.trimPrefix (Lib.cut s.toList [47]).1 [45]).length ≤ 1000000) :
    Calls Tryz.prog 93 #[.string s] w fun e w' => e = .returned (.tuple #[.agg #[.int .i64 (fprF s.toList).1.1, .int .i64 (fprF s.toList).1.2], .int .i64 (fprF s.toList).2]) ∧ Up w w' := by
  obtain ⟨⟨⟨r1, r2⟩, r3⟩, hr⟩ : ∃ r, fprF s.toList = r := ⟨_, rfl⟩
  rw [hr]
  obtain ⟨m, hm⟩ := hR.len
  have HC : Hid (∀ x, Up w x → Calls Tryz.prog 130 #[.string s, .string ⟨#[47]⟩] x fun e w' => e = .returned (.tuple #[.string (bst (Lib.cut s.toList [47]).1), .string (bst (Lib.cut s.toList [47]).2.1), .bool (Lib.cut s.toList [47]).2.2]) ∧ Up x w') := Lib.hid (fun x hx => by
    rw [Lib.toList_data]
    exact (Tryz.strings_Cut s ⟨#[47]⟩ m x (by omega) (cell_up hx hm)).mono fun e w' ⟨h1, n, h2⟩ => ⟨h1, by rw [h2]; exact Up.drewN n (Up.refl x)⟩)
  have HP : Hid (∀ x, Calls Tryz.prog 131 #[.string (bst (Lib.cut s.toList [47]).1), .string ⟨#[45]⟩] x fun e w' => e = .returned (.tuple #[.string (bst (Lib.trimPrefix (Lib.cut s.toList [47]).1 [45])), .bool (Lib.hasPrefix (Lib.cut s.toList [47]).1 [45])]) ∧ Up x w') := Lib.hid (fun x =>
    (Tryz.strings_CutPrefix (bst (Lib.cut s.toList [47]).1) ⟨#[45]⟩ x).mono fun e w' ⟨h1, h2⟩ => ⟨h1, h2 ▸ Up.refl x⟩)
  unfold fprF at hr
  generalize Lib.trimPrefix (Lib.cut s.toList [47]).1 [45] = dg at *
  generalize Lib.hasPrefix (Lib.cut s.toList [47]).1 [45] = ng at *
  generalize (Lib.cut s.toList [47]).1 = tp at *
  generalize (Lib.cut s.toList [47]).2.1 = bt at *
  generalize (Lib.cut s.toList [47]).2.2 = sl at *
  have szb : ∀ l : List UInt8, (bst l).size = l.length := fun l => by simp [bst, ByteArray.size]
  have HD1 := Lib.hid (fun x => calls_up (frac_decimal (bst dg) (by rw [szb]; exact l3) x))
  have HD2 := Lib.hid (fun x => calls_up (frac_decimal (bst bt) (by rw [szb]; exact l2) x))
  have HB1 := Lib.hid (fun x (hx : Up w x) => frac_bounded (bst dg) (by rw [szb]; exact l3) x (hR.up hx))
  have HB2 := Lib.hid (fun x (hx : Up w x) => frac_bounded (bst bt) (by rw [szb]; exact l2) x (hR.up hx))
  have HB3 : Hid (∀ x, Up w x → Calls Tryz.prog 133 #[.string ⟨#[49]⟩] x fun e w' => e = .returned (.tuple #[.int .i64 (bndF [49]).1, .bool (bndF [49]).2]) ∧ Up x w') := Lib.hid (fun x (hx : Up w x) => by
    have := frac_bounded (bst [49]) (by decide) x (hR.up hx)
    rw [bst_list] at this
    exact this)
  rw [bst_list] at HD1 HD2 HB1 HB2
  have HR := Lib.hid hr
  have HU0 : Hid (Up w (w.alloc (.cells #[.int .i64 0, .int .i64 0] 38))) := Lib.hid ((Up.refl w).alloc _)
  have B0 : Hid (BoxC (w.alloc (.cells #[.int .i64 0, .int .i64 0] 38)) w.heap.size 38 #[.int .i64 0, .int .i64 0]) := Lib.hid (BoxC.new w _ _)
  have HNR : Hid (R64 (bndF dg).1) := Lib.hid (bndF_R dg)
  clear hr hR hs l1 l2 l3 szb hm
  unfold fprH at HR
  cases hd1 : decB dg
  · rw [hd1] at HD1
    go_enter Tryz.func93, Tryz.ntmps93
    go_wp2_with (first
    | (go_at_call 130; refine (HC.out _ HU0.out).mono ?_; rintro e x ⟨rfl, hx⟩; replace HU0 := Lib.hid (HU0.out.trans hx); replace B0 := Lib.hid (B0.out.up hx); clear hx; (try clear c0 c1 cf); obtain ⟨c0, c1⟩ := B0.out.two; have cf := B0.out.frozen)
    | (go_at_call 131; refine (HP.out _).mono ?_; rintro e x ⟨rfl, hx⟩; replace HU0 := Lib.hid (HU0.out.trans hx); replace B0 := Lib.hid (B0.out.up hx); clear hx; (try clear c0 c1 cf); obtain ⟨c0, c1⟩ := B0.out.two; have cf := B0.out.frozen)
    | (go_at_call 132; (first | (with_reducible refine (HD1.out _).mono ?_) | (with_reducible refine (HD2.out _).mono ?_)); rintro e x ⟨rfl, hx⟩; replace HU0 := Lib.hid (HU0.out.trans hx); replace B0 := Lib.hid (B0.out.up hx); clear hx; (try clear c0 c1 cf); obtain ⟨c0, c1⟩ := B0.out.two; have cf := B0.out.frozen)
    | (go_at_call 133; (first | (with_reducible refine (HB1.out _ HU0.out).mono ?_) | (with_reducible refine (HB2.out _ HU0.out).mono ?_) | (with_reducible refine (HB3.out _ HU0.out).mono ?_)); rintro e x ⟨rfl, hx⟩; replace HU0 := Lib.hid (HU0.out.trans hx); replace B0 := Lib.hid (B0.out.up hx); clear hx; (try clear c0 c1 cf); obtain ⟨c0, c1⟩ := B0.out.two; have cf := B0.out.frozen)
    | (go_at_call 76; refine (HV.out _).mono ?_; rintro e x ⟨rfl, hx⟩; have BX := Lib.hid ((BoxC.new _ _ _).up hx); have hxx := Lib.hid hx; replace B0 := Lib.hid ((B0.out.up ((Up.refl _).alloc _)).up hx); replace HU0 := Lib.hid ((HU0.out.alloc _).trans hx); clear hx; (try clear c0 c1 cf); obtain ⟨c0, c1⟩ := B0.out.two; have cf := B0.out.frozen; obtain ⟨v0, v1⟩ := BX.out.two))
    have HF := Lib.hid ((HU0.out.setCell (p := ⟨w.heap.size, 0, none⟩) (Nat.le_refl _) (.int .i64 0)).setCell (p := ⟨w.heap.size, 1, none⟩) (Nat.le_refl _) (.int .i64 0))
    refine bodyPost_ret (v := .tuple #[.agg #[.int .i64 0, .int .i64 0], .int .i64 5]) (by simp [results, Tryz.results93, go_sem, *]) rfl ?_
    have hh := HR.out
    rw [if_pos (.inl hd1)] at hh
    obtain ⟨hh1, rfl⟩ := Prod.mk.inj hh
    obtain ⟨rfl, rfl⟩ := Prod.mk.inj hh1
    exact ⟨rfl, HF.out⟩
  rw [hd1] at HD1
  have q1 : (dg == [48]) = ((bst dg).toList == [48]) := by rw [bst_list]
  have q2 : (bt == [48]) = ((bst bt).toList == [48]) := by rw [bst_list]
  have q3 : (bt == [49]) = ((bst bt).toList == [49]) := by rw [bst_list]
  cases ng
  · have hno : ¬ (decB dg = false ∨ false = true ∧ dg = [48]) := fun h => h.elim (fun h => by rw [hd1] at h; cases h) (fun h => by cases h.1)
    clear q1
    cases sl
    · have hns : ¬ (false = true ∧ (decB bt = false ∨ bt = [48] ∨ bt = [49])) := fun h => by cases h.1
      have HR2 : Hid (fprG false (bndF dg) (bndF [49]) = ((r1, r2), r3)) := Lib.hid (by have hh := HR.out; rw [if_neg hno, if_neg hns] at hh; exact hh)
      clear HR hns
      have HDR : Hid (R64 (bndF [49]).1) := Lib.hid (bndF_R _)
      generalize bndF [49] = db at *
      generalize bndF dg = nb at *
      obtain ⟨n, nok⟩ := nb
      obtain ⟨d, dok⟩ := db
      unfold fprG at HR2
      have HR := HR2
      clear HR2
      cases nok
      · go_enter Tryz.func93, Tryz.ntmps93
        go_wp2_with (first
    | (go_at_call 130; refine (HC.out _ HU0.out).mono ?_; rintro e x ⟨rfl, hx⟩; replace HU0 := Lib.hid (HU0.out.trans hx); replace B0 := Lib.hid (B0.out.up hx); clear hx; (try clear c0 c1 cf); obtain ⟨c0, c1⟩ := B0.out.two; have cf := B0.out.frozen)
    | (go_at_call 131; refine (HP.out _).mono ?_; rintro e x ⟨rfl, hx⟩; replace HU0 := Lib.hid (HU0.out.trans hx); replace B0 := Lib.hid (B0.out.up hx); clear hx; (try clear c0 c1 cf); obtain ⟨c0, c1⟩ := B0.out.two; have cf := B0.out.frozen)
    | (go_at_call 132; (first | (with_reducible refine (HD1.out _).mono ?_) | (with_reducible refine (HD2.out _).mono ?_)); rintro e x ⟨rfl, hx⟩; replace HU0 := Lib.hid (HU0.out.trans hx); replace B0 := Lib.hid (B0.out.up hx); clear hx; (try clear c0 c1 cf); obtain ⟨c0, c1⟩ := B0.out.two; have cf := B0.out.frozen)
    | (go_at_call 133; (first | (with_reducible refine (HB1.out _ HU0.out).mono ?_) | (with_reducible refine (HB2.out _ HU0.out).mono ?_) | (with_reducible refine (HB3.out _ HU0.out).mono ?_)); rintro e x ⟨rfl, hx⟩; replace HU0 := Lib.hid (HU0.out.trans hx); replace B0 := Lib.hid (B0.out.up hx); clear hx; (try clear c0 c1 cf); obtain ⟨c0, c1⟩ := B0.out.two; have cf := B0.out.frozen)
    | (go_at_call 76; refine (HV.out _).mono ?_; rintro e x ⟨rfl, hx⟩; have BX := Lib.hid ((BoxC.new _ _ _).up hx); have hxx := Lib.hid hx; replace B0 := Lib.hid ((B0.out.up ((Up.refl _).alloc _)).up hx); replace HU0 := Lib.hid ((HU0.out.alloc _).trans hx); clear hx; (try clear c0 c1 cf); obtain ⟨c0, c1⟩ := B0.out.two; have cf := B0.out.frozen; obtain ⟨v0, v1⟩ := BX.out.two))
        have HF := Lib.hid ((HU0.out.setCell (p := ⟨w.heap.size, 0, none⟩) (Nat.le_refl _) (.int .i64 0)).setCell (p := ⟨w.heap.size, 1, none⟩) (Nat.le_refl _) (.int .i64 0))
        refine bodyPost_ret (v := .tuple #[.agg #[.int .i64 0, .int .i64 0], .int .i64 3]) (by simp [results, Tryz.results93, go_sem, *]) rfl ?_
        have hh := HR.out
        rw [if_pos (by simp)] at hh
        obtain ⟨hh1, rfl⟩ := Prod.mk.inj hh
        obtain ⟨rfl, rfl⟩ := Prod.mk.inj hh1
        exact ⟨rfl, HF.out⟩
      cases dok
      · go_enter Tryz.func93, Tryz.ntmps93
        go_wp2_with (first
    | (go_at_call 130; refine (HC.out _ HU0.out).mono ?_; rintro e x ⟨rfl, hx⟩; replace HU0 := Lib.hid (HU0.out.trans hx); replace B0 := Lib.hid (B0.out.up hx); clear hx; (try clear c0 c1 cf); obtain ⟨c0, c1⟩ := B0.out.two; have cf := B0.out.frozen)
    | (go_at_call 131; refine (HP.out _).mono ?_; rintro e x ⟨rfl, hx⟩; replace HU0 := Lib.hid (HU0.out.trans hx); replace B0 := Lib.hid (B0.out.up hx); clear hx; (try clear c0 c1 cf); obtain ⟨c0, c1⟩ := B0.out.two; have cf := B0.out.frozen)
    | (go_at_call 132; (first | (with_reducible refine (HD1.out _).mono ?_) | (with_reducible refine (HD2.out _).mono ?_)); rintro e x ⟨rfl, hx⟩; replace HU0 := Lib.hid (HU0.out.trans hx); replace B0 := Lib.hid (B0.out.up hx); clear hx; (try clear c0 c1 cf); obtain ⟨c0, c1⟩ := B0.out.two; have cf := B0.out.frozen)
    | (go_at_call 133; (first | (with_reducible refine (HB1.out _ HU0.out).mono ?_) | (with_reducible refine (HB2.out _ HU0.out).mono ?_) | (with_reducible refine (HB3.out _ HU0.out).mono ?_)); rintro e x ⟨rfl, hx⟩; replace HU0 := Lib.hid (HU0.out.trans hx); replace B0 := Lib.hid (B0.out.up hx); clear hx; (try clear c0 c1 cf); obtain ⟨c0, c1⟩ := B0.out.two; have cf := B0.out.frozen)
    | (go_at_call 76; refine (HV.out _).mono ?_; rintro e x ⟨rfl, hx⟩; have BX := Lib.hid ((BoxC.new _ _ _).up hx); have hxx := Lib.hid hx; replace B0 := Lib.hid ((B0.out.up ((Up.refl _).alloc _)).up hx); replace HU0 := Lib.hid ((HU0.out.alloc _).trans hx); clear hx; (try clear c0 c1 cf); obtain ⟨c0, c1⟩ := B0.out.two; have cf := B0.out.frozen; obtain ⟨v0, v1⟩ := BX.out.two))
        have HF := Lib.hid ((HU0.out.setCell (p := ⟨w.heap.size, 0, none⟩) (Nat.le_refl _) (.int .i64 0)).setCell (p := ⟨w.heap.size, 1, none⟩) (Nat.le_refl _) (.int .i64 0))
        refine bodyPost_ret (v := .tuple #[.agg #[.int .i64 0, .int .i64 0], .int .i64 3]) (by simp [results, Tryz.results93, go_sem, *]) rfl ?_
        have hh := HR.out
        rw [if_pos (by simp)] at hh
        obtain ⟨hh1, rfl⟩ := Prod.mk.inj hh
        obtain ⟨rfl, rfl⟩ := Prod.mk.inj hh1
        exact ⟨rfl, HF.out⟩
      cases hv : validF (n) d
      · have HV := Lib.hid (fun x => frac_Valid (n) d false hv HNR.out.1 HNR.out.2 x)
        go_enter Tryz.func93, Tryz.ntmps93
        go_wp2_with (first
    | (go_at_call 130; refine (HC.out _ HU0.out).mono ?_; rintro e x ⟨rfl, hx⟩; replace HU0 := Lib.hid (HU0.out.trans hx); replace B0 := Lib.hid (B0.out.up hx); clear hx; (try clear c0 c1 cf); obtain ⟨c0, c1⟩ := B0.out.two; have cf := B0.out.frozen)
    | (go_at_call 131; refine (HP.out _).mono ?_; rintro e x ⟨rfl, hx⟩; replace HU0 := Lib.hid (HU0.out.trans hx); replace B0 := Lib.hid (B0.out.up hx); clear hx; (try clear c0 c1 cf); obtain ⟨c0, c1⟩ := B0.out.two; have cf := B0.out.frozen)
    | (go_at_call 132; (first | (with_reducible refine (HD1.out _).mono ?_) | (with_reducible refine (HD2.out _).mono ?_)); rintro e x ⟨rfl, hx⟩; replace HU0 := Lib.hid (HU0.out.trans hx); replace B0 := Lib.hid (B0.out.up hx); clear hx; (try clear c0 c1 cf); obtain ⟨c0, c1⟩ := B0.out.two; have cf := B0.out.frozen)
    | (go_at_call 133; (first | (with_reducible refine (HB1.out _ HU0.out).mono ?_) | (with_reducible refine (HB2.out _ HU0.out).mono ?_) | (with_reducible refine (HB3.out _ HU0.out).mono ?_)); rintro e x ⟨rfl, hx⟩; replace HU0 := Lib.hid (HU0.out.trans hx); replace B0 := Lib.hid (B0.out.up hx); clear hx; (try clear c0 c1 cf); obtain ⟨c0, c1⟩ := B0.out.two; have cf := B0.out.frozen)
    | (go_at_call 76; refine (HV.out _).mono ?_; rintro e x ⟨rfl, hx⟩; have BX := Lib.hid ((BoxC.new _ _ _).up hx); have hxx := Lib.hid hx; replace B0 := Lib.hid ((B0.out.up ((Up.refl _).alloc _)).up hx); replace HU0 := Lib.hid ((HU0.out.alloc _).trans hx); clear hx; (try clear c0 c1 cf); obtain ⟨c0, c1⟩ := B0.out.two; have cf := B0.out.frozen; obtain ⟨v0, v1⟩ := BX.out.two))
        have HF := Lib.hid ((HU0.out.setCell (p := ⟨w.heap.size, 0, none⟩) (Nat.le_refl _) (.int .i64 0)).setCell (p := ⟨w.heap.size, 1, none⟩) (Nat.le_refl _) (.int .i64 0))
        refine bodyPost_ret (v := .tuple #[.agg #[.int .i64 0, .int .i64 0], .int .i64 5]) (by simp [results, Tryz.results93, go_sem, *]) rfl ?_
        have hh := HR.out
        rw [if_neg (by simp)] at hh; have hh := hh; simp only [Bool.false_eq_true, if_false, hv] at hh
        obtain ⟨hh1, rfl⟩ := Prod.mk.inj hh
        obtain ⟨rfl, rfl⟩ := Prod.mk.inj hh1
        exact ⟨rfl, HF.out⟩
      · have HV := Lib.hid (fun x => frac_Valid (n) d true hv HNR.out.1 HNR.out.2 x)
        go_enter Tryz.func93, Tryz.ntmps93
        go_wp2_with (first
    | (go_at_call 130; refine (HC.out _ HU0.out).mono ?_; rintro e x ⟨rfl, hx⟩; replace HU0 := Lib.hid (HU0.out.trans hx); replace B0 := Lib.hid (B0.out.up hx); clear hx; (try clear c0 c1 cf); obtain ⟨c0, c1⟩ := B0.out.two; have cf := B0.out.frozen)
    | (go_at_call 131; refine (HP.out _).mono ?_; rintro e x ⟨rfl, hx⟩; replace HU0 := Lib.hid (HU0.out.trans hx); replace B0 := Lib.hid (B0.out.up hx); clear hx; (try clear c0 c1 cf); obtain ⟨c0, c1⟩ := B0.out.two; have cf := B0.out.frozen)
    | (go_at_call 132; (first | (with_reducible refine (HD1.out _).mono ?_) | (with_reducible refine (HD2.out _).mono ?_)); rintro e x ⟨rfl, hx⟩; replace HU0 := Lib.hid (HU0.out.trans hx); replace B0 := Lib.hid (B0.out.up hx); clear hx; (try clear c0 c1 cf); obtain ⟨c0, c1⟩ := B0.out.two; have cf := B0.out.frozen)
    | (go_at_call 133; (first | (with_reducible refine (HB1.out _ HU0.out).mono ?_) | (with_reducible refine (HB2.out _ HU0.out).mono ?_) | (with_reducible refine (HB3.out _ HU0.out).mono ?_)); rintro e x ⟨rfl, hx⟩; replace HU0 := Lib.hid (HU0.out.trans hx); replace B0 := Lib.hid (B0.out.up hx); clear hx; (try clear c0 c1 cf); obtain ⟨c0, c1⟩ := B0.out.two; have cf := B0.out.frozen)
    | (go_at_call 76; refine (HV.out _).mono ?_; rintro e x ⟨rfl, hx⟩; have BX := Lib.hid ((BoxC.new _ _ _).up hx); have hxx := Lib.hid hx; replace B0 := Lib.hid ((B0.out.up ((Up.refl _).alloc _)).up hx); replace HU0 := Lib.hid ((HU0.out.alloc _).trans hx); clear hx; (try clear c0 c1 cf); obtain ⟨c0, c1⟩ := B0.out.two; have cf := B0.out.frozen; obtain ⟨v0, v1⟩ := BX.out.two))
        have HF := Lib.hid ((HU0.out.setCell (p := ⟨w.heap.size, 0, none⟩) (Nat.le_refl _) (.int .i64 (n))).setCell (p := ⟨w.heap.size, 1, none⟩) (Nat.le_refl _) (.int .i64 d))
        refine bodyPost_ret (v := .tuple #[.agg #[.int .i64 (n), .int .i64 d], .int .i64 0]) (by simp [results, Tryz.results93, go_sem, *]) rfl ?_
        have hh := HR.out
        rw [if_neg (by simp)] at hh; have hh := hh; simp only [Bool.false_eq_true, if_false, hv] at hh
        obtain ⟨hh1, rfl⟩ := Prod.mk.inj hh
        obtain ⟨rfl, rfl⟩ := Prod.mk.inj hh1
        exact ⟨rfl, HF.out⟩
    · cases hd2 : decB bt
      · rw [hd2] at HD2
        go_enter Tryz.func93, Tryz.ntmps93
        go_wp2_with (first
    | (go_at_call 130; refine (HC.out _ HU0.out).mono ?_; rintro e x ⟨rfl, hx⟩; replace HU0 := Lib.hid (HU0.out.trans hx); replace B0 := Lib.hid (B0.out.up hx); clear hx; (try clear c0 c1 cf); obtain ⟨c0, c1⟩ := B0.out.two; have cf := B0.out.frozen)
    | (go_at_call 131; refine (HP.out _).mono ?_; rintro e x ⟨rfl, hx⟩; replace HU0 := Lib.hid (HU0.out.trans hx); replace B0 := Lib.hid (B0.out.up hx); clear hx; (try clear c0 c1 cf); obtain ⟨c0, c1⟩ := B0.out.two; have cf := B0.out.frozen)
    | (go_at_call 132; (first | (with_reducible refine (HD1.out _).mono ?_) | (with_reducible refine (HD2.out _).mono ?_)); rintro e x ⟨rfl, hx⟩; replace HU0 := Lib.hid (HU0.out.trans hx); replace B0 := Lib.hid (B0.out.up hx); clear hx; (try clear c0 c1 cf); obtain ⟨c0, c1⟩ := B0.out.two; have cf := B0.out.frozen)
    | (go_at_call 133; (first | (with_reducible refine (HB1.out _ HU0.out).mono ?_) | (with_reducible refine (HB2.out _ HU0.out).mono ?_) | (with_reducible refine (HB3.out _ HU0.out).mono ?_)); rintro e x ⟨rfl, hx⟩; replace HU0 := Lib.hid (HU0.out.trans hx); replace B0 := Lib.hid (B0.out.up hx); clear hx; (try clear c0 c1 cf); obtain ⟨c0, c1⟩ := B0.out.two; have cf := B0.out.frozen)
    | (go_at_call 76; refine (HV.out _).mono ?_; rintro e x ⟨rfl, hx⟩; have BX := Lib.hid ((BoxC.new _ _ _).up hx); have hxx := Lib.hid hx; replace B0 := Lib.hid ((B0.out.up ((Up.refl _).alloc _)).up hx); replace HU0 := Lib.hid ((HU0.out.alloc _).trans hx); clear hx; (try clear c0 c1 cf); obtain ⟨c0, c1⟩ := B0.out.two; have cf := B0.out.frozen; obtain ⟨v0, v1⟩ := BX.out.two))
        have HF := Lib.hid ((HU0.out.setCell (p := ⟨w.heap.size, 0, none⟩) (Nat.le_refl _) (.int .i64 0)).setCell (p := ⟨w.heap.size, 1, none⟩) (Nat.le_refl _) (.int .i64 0))
        refine bodyPost_ret (v := .tuple #[.agg #[.int .i64 0, .int .i64 0], .int .i64 5]) (by simp [results, Tryz.results93, go_sem, *]) rfl ?_
        have hh := HR.out
        rw [if_neg hno, if_pos ⟨(by simp), .inl hd2⟩] at hh
        obtain ⟨hh1, rfl⟩ := Prod.mk.inj hh
        obtain ⟨rfl, rfl⟩ := Prod.mk.inj hh1
        exact ⟨rfl, HF.out⟩
      rw [hd2] at HD2
      cases e48 : bt == [48]
      rotate_left
      · have p48 := Lib.hid (eq_of_beq e48)
        rw [e48] at q2
        clear e48 q3
        replace q2 := q2.symm
        go_enter Tryz.func93, Tryz.ntmps93
        go_wp2_with (first
    | (go_at_call 130; refine (HC.out _ HU0.out).mono ?_; rintro e x ⟨rfl, hx⟩; replace HU0 := Lib.hid (HU0.out.trans hx); replace B0 := Lib.hid (B0.out.up hx); clear hx; (try clear c0 c1 cf); obtain ⟨c0, c1⟩ := B0.out.two; have cf := B0.out.frozen)
    | (go_at_call 131; refine (HP.out _).mono ?_; rintro e x ⟨rfl, hx⟩; replace HU0 := Lib.hid (HU0.out.trans hx); replace B0 := Lib.hid (B0.out.up hx); clear hx; (try clear c0 c1 cf); obtain ⟨c0, c1⟩ := B0.out.two; have cf := B0.out.frozen)
    | (go_at_call 132; (first | (with_reducible refine (HD1.out _).mono ?_) | (with_reducible refine (HD2.out _).mono ?_)); rintro e x ⟨rfl, hx⟩; replace HU0 := Lib.hid (HU0.out.trans hx); replace B0 := Lib.hid (B0.out.up hx); clear hx; (try clear c0 c1 cf); obtain ⟨c0, c1⟩ := B0.out.two; have cf := B0.out.frozen)
    | (go_at_call 133; (first | (with_reducible refine (HB1.out _ HU0.out).mono ?_) | (with_reducible refine (HB2.out _ HU0.out).mono ?_) | (with_reducible refine (HB3.out _ HU0.out).mono ?_)); rintro e x ⟨rfl, hx⟩; replace HU0 := Lib.hid (HU0.out.trans hx); replace B0 := Lib.hid (B0.out.up hx); clear hx; (try clear c0 c1 cf); obtain ⟨c0, c1⟩ := B0.out.two; have cf := B0.out.frozen)
    | (go_at_call 76; refine (HV.out _).mono ?_; rintro e x ⟨rfl, hx⟩; have BX := Lib.hid ((BoxC.new _ _ _).up hx); have hxx := Lib.hid hx; replace B0 := Lib.hid ((B0.out.up ((Up.refl _).alloc _)).up hx); replace HU0 := Lib.hid ((HU0.out.alloc _).trans hx); clear hx; (try clear c0 c1 cf); obtain ⟨c0, c1⟩ := B0.out.two; have cf := B0.out.frozen; obtain ⟨v0, v1⟩ := BX.out.two))
        have HF := Lib.hid ((HU0.out.setCell (p := ⟨w.heap.size, 0, none⟩) (Nat.le_refl _) (.int .i64 0)).setCell (p := ⟨w.heap.size, 1, none⟩) (Nat.le_refl _) (.int .i64 0))
        refine bodyPost_ret (v := .tuple #[.agg #[.int .i64 0, .int .i64 0], .int .i64 5]) (by simp [results, Tryz.results93, go_sem, *]) rfl ?_
        have hh := HR.out
        rw [if_neg hno, if_pos ⟨(by simp), .inr (.inl p48.out)⟩] at hh
        obtain ⟨hh1, rfl⟩ := Prod.mk.inj hh
        obtain ⟨rfl, rfl⟩ := Prod.mk.inj hh1
        exact ⟨rfl, HF.out⟩
      have n48 : bt ≠ [48] := fun h => by rw [h] at e48; cases e48
      rw [e48] at q2
      replace q2 := q2.symm
      cases e49 : bt == [49]
      rotate_left
      · have p49 := Lib.hid (eq_of_beq e49)
        rw [e49] at q3
        clear e49
        replace q3 := q3.symm
        go_enter Tryz.func93, Tryz.ntmps93
        go_wp2_with (first
    | (go_at_call 130; refine (HC.out _ HU0.out).mono ?_; rintro e x ⟨rfl, hx⟩; replace HU0 := Lib.hid (HU0.out.trans hx); replace B0 := Lib.hid (B0.out.up hx); clear hx; (try clear c0 c1 cf); obtain ⟨c0, c1⟩ := B0.out.two; have cf := B0.out.frozen)
    | (go_at_call 131; refine (HP.out _).mono ?_; rintro e x ⟨rfl, hx⟩; replace HU0 := Lib.hid (HU0.out.trans hx); replace B0 := Lib.hid (B0.out.up hx); clear hx; (try clear c0 c1 cf); obtain ⟨c0, c1⟩ := B0.out.two; have cf := B0.out.frozen)
    | (go_at_call 132; (first | (with_reducible refine (HD1.out _).mono ?_) | (with_reducible refine (HD2.out _).mono ?_)); rintro e x ⟨rfl, hx⟩; replace HU0 := Lib.hid (HU0.out.trans hx); replace B0 := Lib.hid (B0.out.up hx); clear hx; (try clear c0 c1 cf); obtain ⟨c0, c1⟩ := B0.out.two; have cf := B0.out.frozen)
    | (go_at_call 133; (first | (with_reducible refine (HB1.out _ HU0.out).mono ?_) | (with_reducible refine (HB2.out _ HU0.out).mono ?_) | (with_reducible refine (HB3.out _ HU0.out).mono ?_)); rintro e x ⟨rfl, hx⟩; replace HU0 := Lib.hid (HU0.out.trans hx); replace B0 := Lib.hid (B0.out.up hx); clear hx; (try clear c0 c1 cf); obtain ⟨c0, c1⟩ := B0.out.two; have cf := B0.out.frozen)
    | (go_at_call 76; refine (HV.out _).mono ?_; rintro e x ⟨rfl, hx⟩; have BX := Lib.hid ((BoxC.new _ _ _).up hx); have hxx := Lib.hid hx; replace B0 := Lib.hid ((B0.out.up ((Up.refl _).alloc _)).up hx); replace HU0 := Lib.hid ((HU0.out.alloc _).trans hx); clear hx; (try clear c0 c1 cf); obtain ⟨c0, c1⟩ := B0.out.two; have cf := B0.out.frozen; obtain ⟨v0, v1⟩ := BX.out.two))
        have HF := Lib.hid ((HU0.out.setCell (p := ⟨w.heap.size, 0, none⟩) (Nat.le_refl _) (.int .i64 0)).setCell (p := ⟨w.heap.size, 1, none⟩) (Nat.le_refl _) (.int .i64 0))
        refine bodyPost_ret (v := .tuple #[.agg #[.int .i64 0, .int .i64 0], .int .i64 5]) (by simp [results, Tryz.results93, go_sem, *]) rfl ?_
        have hh := HR.out
        rw [if_neg hno, if_pos ⟨(by simp), .inr (.inr p49.out)⟩] at hh
        obtain ⟨hh1, rfl⟩ := Prod.mk.inj hh
        obtain ⟨rfl, rfl⟩ := Prod.mk.inj hh1
        exact ⟨rfl, HF.out⟩
      have n49 : bt ≠ [49] := fun h => by rw [h] at e49; cases e49
      rw [e49] at q3
      replace q3 := q3.symm
      have hns : ¬ (true = true ∧ (decB bt = false ∨ bt = [48] ∨ bt = [49])) := fun h => h.2.elim (fun h => by rw [hd2] at h; cases h) (fun h => h.elim n48 n49)
      have HR2 : Hid (fprG false (bndF dg) (bndF bt) = ((r1, r2), r3)) := Lib.hid (by have hh := HR.out; rw [if_neg hno, if_neg hns] at hh; exact hh)
      clear HR hns
      have HDR : Hid (R64 (bndF bt).1) := Lib.hid (bndF_R _)
      generalize bndF bt = db at *
      generalize bndF dg = nb at *
      obtain ⟨n, nok⟩ := nb
      obtain ⟨d, dok⟩ := db
      unfold fprG at HR2
      have HR := HR2
      clear HR2
      cases nok
      · go_enter Tryz.func93, Tryz.ntmps93
        go_wp2_with (first
    | (go_at_call 130; refine (HC.out _ HU0.out).mono ?_; rintro e x ⟨rfl, hx⟩; replace HU0 := Lib.hid (HU0.out.trans hx); replace B0 := Lib.hid (B0.out.up hx); clear hx; (try clear c0 c1 cf); obtain ⟨c0, c1⟩ := B0.out.two; have cf := B0.out.frozen)
    | (go_at_call 131; refine (HP.out _).mono ?_; rintro e x ⟨rfl, hx⟩; replace HU0 := Lib.hid (HU0.out.trans hx); replace B0 := Lib.hid (B0.out.up hx); clear hx; (try clear c0 c1 cf); obtain ⟨c0, c1⟩ := B0.out.two; have cf := B0.out.frozen)
    | (go_at_call 132; (first | (with_reducible refine (HD1.out _).mono ?_) | (with_reducible refine (HD2.out _).mono ?_)); rintro e x ⟨rfl, hx⟩; replace HU0 := Lib.hid (HU0.out.trans hx); replace B0 := Lib.hid (B0.out.up hx); clear hx; (try clear c0 c1 cf); obtain ⟨c0, c1⟩ := B0.out.two; have cf := B0.out.frozen)
    | (go_at_call 133; (first | (with_reducible refine (HB1.out _ HU0.out).mono ?_) | (with_reducible refine (HB2.out _ HU0.out).mono ?_) | (with_reducible refine (HB3.out _ HU0.out).mono ?_)); rintro e x ⟨rfl, hx⟩; replace HU0 := Lib.hid (HU0.out.trans hx); replace B0 := Lib.hid (B0.out.up hx); clear hx; (try clear c0 c1 cf); obtain ⟨c0, c1⟩ := B0.out.two; have cf := B0.out.frozen)
    | (go_at_call 76; refine (HV.out _).mono ?_; rintro e x ⟨rfl, hx⟩; have BX := Lib.hid ((BoxC.new _ _ _).up hx); have hxx := Lib.hid hx; replace B0 := Lib.hid ((B0.out.up ((Up.refl _).alloc _)).up hx); replace HU0 := Lib.hid ((HU0.out.alloc _).trans hx); clear hx; (try clear c0 c1 cf); obtain ⟨c0, c1⟩ := B0.out.two; have cf := B0.out.frozen; obtain ⟨v0, v1⟩ := BX.out.two))
        have HF := Lib.hid ((HU0.out.setCell (p := ⟨w.heap.size, 0, none⟩) (Nat.le_refl _) (.int .i64 0)).setCell (p := ⟨w.heap.size, 1, none⟩) (Nat.le_refl _) (.int .i64 0))
        refine bodyPost_ret (v := .tuple #[.agg #[.int .i64 0, .int .i64 0], .int .i64 3]) (by simp [results, Tryz.results93, go_sem, *]) rfl ?_
        have hh := HR.out
        rw [if_pos (by simp)] at hh
        obtain ⟨hh1, rfl⟩ := Prod.mk.inj hh
        obtain ⟨rfl, rfl⟩ := Prod.mk.inj hh1
        exact ⟨rfl, HF.out⟩
      cases dok
      · go_enter Tryz.func93, Tryz.ntmps93
        go_wp2_with (first
    | (go_at_call 130; refine (HC.out _ HU0.out).mono ?_; rintro e x ⟨rfl, hx⟩; replace HU0 := Lib.hid (HU0.out.trans hx); replace B0 := Lib.hid (B0.out.up hx); clear hx; (try clear c0 c1 cf); obtain ⟨c0, c1⟩ := B0.out.two; have cf := B0.out.frozen)
    | (go_at_call 131; refine (HP.out _).mono ?_; rintro e x ⟨rfl, hx⟩; replace HU0 := Lib.hid (HU0.out.trans hx); replace B0 := Lib.hid (B0.out.up hx); clear hx; (try clear c0 c1 cf); obtain ⟨c0, c1⟩ := B0.out.two; have cf := B0.out.frozen)
    | (go_at_call 132; (first | (with_reducible refine (HD1.out _).mono ?_) | (with_reducible refine (HD2.out _).mono ?_)); rintro e x ⟨rfl, hx⟩; replace HU0 := Lib.hid (HU0.out.trans hx); replace B0 := Lib.hid (B0.out.up hx); clear hx; (try clear c0 c1 cf); obtain ⟨c0, c1⟩ := B0.out.two; have cf := B0.out.frozen)
    | (go_at_call 133; (first | (with_reducible refine (HB1.out _ HU0.out).mono ?_) | (with_reducible refine (HB2.out _ HU0.out).mono ?_) | (with_reducible refine (HB3.out _ HU0.out).mono ?_)); rintro e x ⟨rfl, hx⟩; replace HU0 := Lib.hid (HU0.out.trans hx); replace B0 := Lib.hid (B0.out.up hx); clear hx; (try clear c0 c1 cf); obtain ⟨c0, c1⟩ := B0.out.two; have cf := B0.out.frozen)
    | (go_at_call 76; refine (HV.out _).mono ?_; rintro e x ⟨rfl, hx⟩; have BX := Lib.hid ((BoxC.new _ _ _).up hx); have hxx := Lib.hid hx; replace B0 := Lib.hid ((B0.out.up ((Up.refl _).alloc _)).up hx); replace HU0 := Lib.hid ((HU0.out.alloc _).trans hx); clear hx; (try clear c0 c1 cf); obtain ⟨c0, c1⟩ := B0.out.two; have cf := B0.out.frozen; obtain ⟨v0, v1⟩ := BX.out.two))
        have HF := Lib.hid ((HU0.out.setCell (p := ⟨w.heap.size, 0, none⟩) (Nat.le_refl _) (.int .i64 0)).setCell (p := ⟨w.heap.size, 1, none⟩) (Nat.le_refl _) (.int .i64 0))
        refine bodyPost_ret (v := .tuple #[.agg #[.int .i64 0, .int .i64 0], .int .i64 3]) (by simp [results, Tryz.results93, go_sem, *]) rfl ?_
        have hh := HR.out
        rw [if_pos (by simp)] at hh
        obtain ⟨hh1, rfl⟩ := Prod.mk.inj hh
        obtain ⟨rfl, rfl⟩ := Prod.mk.inj hh1
        exact ⟨rfl, HF.out⟩
      cases hv : validF (n) d
      · have HV := Lib.hid (fun x => frac_Valid (n) d false hv HNR.out.1 HNR.out.2 x)
        go_enter Tryz.func93, Tryz.ntmps93
        go_wp2_with (first
    | (go_at_call 130; refine (HC.out _ HU0.out).mono ?_; rintro e x ⟨rfl, hx⟩; replace HU0 := Lib.hid (HU0.out.trans hx); replace B0 := Lib.hid (B0.out.up hx); clear hx; (try clear c0 c1 cf); obtain ⟨c0, c1⟩ := B0.out.two; have cf := B0.out.frozen)
    | (go_at_call 131; refine (HP.out _).mono ?_; rintro e x ⟨rfl, hx⟩; replace HU0 := Lib.hid (HU0.out.trans hx); replace B0 := Lib.hid (B0.out.up hx); clear hx; (try clear c0 c1 cf); obtain ⟨c0, c1⟩ := B0.out.two; have cf := B0.out.frozen)
    | (go_at_call 132; (first | (with_reducible refine (HD1.out _).mono ?_) | (with_reducible refine (HD2.out _).mono ?_)); rintro e x ⟨rfl, hx⟩; replace HU0 := Lib.hid (HU0.out.trans hx); replace B0 := Lib.hid (B0.out.up hx); clear hx; (try clear c0 c1 cf); obtain ⟨c0, c1⟩ := B0.out.two; have cf := B0.out.frozen)
    | (go_at_call 133; (first | (with_reducible refine (HB1.out _ HU0.out).mono ?_) | (with_reducible refine (HB2.out _ HU0.out).mono ?_) | (with_reducible refine (HB3.out _ HU0.out).mono ?_)); rintro e x ⟨rfl, hx⟩; replace HU0 := Lib.hid (HU0.out.trans hx); replace B0 := Lib.hid (B0.out.up hx); clear hx; (try clear c0 c1 cf); obtain ⟨c0, c1⟩ := B0.out.two; have cf := B0.out.frozen)
    | (go_at_call 76; refine (HV.out _).mono ?_; rintro e x ⟨rfl, hx⟩; have BX := Lib.hid ((BoxC.new _ _ _).up hx); have hxx := Lib.hid hx; replace B0 := Lib.hid ((B0.out.up ((Up.refl _).alloc _)).up hx); replace HU0 := Lib.hid ((HU0.out.alloc _).trans hx); clear hx; (try clear c0 c1 cf); obtain ⟨c0, c1⟩ := B0.out.two; have cf := B0.out.frozen; obtain ⟨v0, v1⟩ := BX.out.two))
        have HF := Lib.hid ((HU0.out.setCell (p := ⟨w.heap.size, 0, none⟩) (Nat.le_refl _) (.int .i64 0)).setCell (p := ⟨w.heap.size, 1, none⟩) (Nat.le_refl _) (.int .i64 0))
        refine bodyPost_ret (v := .tuple #[.agg #[.int .i64 0, .int .i64 0], .int .i64 5]) (by simp [results, Tryz.results93, go_sem, *]) rfl ?_
        have hh := HR.out
        rw [if_neg (by simp)] at hh; have hh := hh; simp only [Bool.false_eq_true, if_false, hv] at hh
        obtain ⟨hh1, rfl⟩ := Prod.mk.inj hh
        obtain ⟨rfl, rfl⟩ := Prod.mk.inj hh1
        exact ⟨rfl, HF.out⟩
      · have HV := Lib.hid (fun x => frac_Valid (n) d true hv HNR.out.1 HNR.out.2 x)
        go_enter Tryz.func93, Tryz.ntmps93
        go_wp2_with (first
    | (go_at_call 130; refine (HC.out _ HU0.out).mono ?_; rintro e x ⟨rfl, hx⟩; replace HU0 := Lib.hid (HU0.out.trans hx); replace B0 := Lib.hid (B0.out.up hx); clear hx; (try clear c0 c1 cf); obtain ⟨c0, c1⟩ := B0.out.two; have cf := B0.out.frozen)
    | (go_at_call 131; refine (HP.out _).mono ?_; rintro e x ⟨rfl, hx⟩; replace HU0 := Lib.hid (HU0.out.trans hx); replace B0 := Lib.hid (B0.out.up hx); clear hx; (try clear c0 c1 cf); obtain ⟨c0, c1⟩ := B0.out.two; have cf := B0.out.frozen)
    | (go_at_call 132; (first | (with_reducible refine (HD1.out _).mono ?_) | (with_reducible refine (HD2.out _).mono ?_)); rintro e x ⟨rfl, hx⟩; replace HU0 := Lib.hid (HU0.out.trans hx); replace B0 := Lib.hid (B0.out.up hx); clear hx; (try clear c0 c1 cf); obtain ⟨c0, c1⟩ := B0.out.two; have cf := B0.out.frozen)
    | (go_at_call 133; (first | (with_reducible refine (HB1.out _ HU0.out).mono ?_) | (with_reducible refine (HB2.out _ HU0.out).mono ?_) | (with_reducible refine (HB3.out _ HU0.out).mono ?_)); rintro e x ⟨rfl, hx⟩; replace HU0 := Lib.hid (HU0.out.trans hx); replace B0 := Lib.hid (B0.out.up hx); clear hx; (try clear c0 c1 cf); obtain ⟨c0, c1⟩ := B0.out.two; have cf := B0.out.frozen)
    | (go_at_call 76; refine (HV.out _).mono ?_; rintro e x ⟨rfl, hx⟩; have BX := Lib.hid ((BoxC.new _ _ _).up hx); have hxx := Lib.hid hx; replace B0 := Lib.hid ((B0.out.up ((Up.refl _).alloc _)).up hx); replace HU0 := Lib.hid ((HU0.out.alloc _).trans hx); clear hx; (try clear c0 c1 cf); obtain ⟨c0, c1⟩ := B0.out.two; have cf := B0.out.frozen; obtain ⟨v0, v1⟩ := BX.out.two))
        have HF := Lib.hid ((HU0.out.setCell (p := ⟨w.heap.size, 0, none⟩) (Nat.le_refl _) (.int .i64 (n))).setCell (p := ⟨w.heap.size, 1, none⟩) (Nat.le_refl _) (.int .i64 d))
        refine bodyPost_ret (v := .tuple #[.agg #[.int .i64 (n), .int .i64 d], .int .i64 0]) (by simp [results, Tryz.results93, go_sem, *]) rfl ?_
        have hh := HR.out
        rw [if_neg (by simp)] at hh; have hh := hh; simp only [Bool.false_eq_true, if_false, hv] at hh
        obtain ⟨hh1, rfl⟩ := Prod.mk.inj hh
        obtain ⟨rfl, rfl⟩ := Prod.mk.inj hh1
        exact ⟨rfl, HF.out⟩
  · cases e0 : dg == [48]
    rotate_left
    · have p0 := Lib.hid (eq_of_beq e0)
      rw [e0] at q1
      clear e0
      replace q1 := q1.symm
      go_enter Tryz.func93, Tryz.ntmps93
      go_wp2_with (first
    | (go_at_call 130; refine (HC.out _ HU0.out).mono ?_; rintro e x ⟨rfl, hx⟩; replace HU0 := Lib.hid (HU0.out.trans hx); replace B0 := Lib.hid (B0.out.up hx); clear hx; (try clear c0 c1 cf); obtain ⟨c0, c1⟩ := B0.out.two; have cf := B0.out.frozen)
    | (go_at_call 131; refine (HP.out _).mono ?_; rintro e x ⟨rfl, hx⟩; replace HU0 := Lib.hid (HU0.out.trans hx); replace B0 := Lib.hid (B0.out.up hx); clear hx; (try clear c0 c1 cf); obtain ⟨c0, c1⟩ := B0.out.two; have cf := B0.out.frozen)
    | (go_at_call 132; (first | (with_reducible refine (HD1.out _).mono ?_) | (with_reducible refine (HD2.out _).mono ?_)); rintro e x ⟨rfl, hx⟩; replace HU0 := Lib.hid (HU0.out.trans hx); replace B0 := Lib.hid (B0.out.up hx); clear hx; (try clear c0 c1 cf); obtain ⟨c0, c1⟩ := B0.out.two; have cf := B0.out.frozen)
    | (go_at_call 133; (first | (with_reducible refine (HB1.out _ HU0.out).mono ?_) | (with_reducible refine (HB2.out _ HU0.out).mono ?_) | (with_reducible refine (HB3.out _ HU0.out).mono ?_)); rintro e x ⟨rfl, hx⟩; replace HU0 := Lib.hid (HU0.out.trans hx); replace B0 := Lib.hid (B0.out.up hx); clear hx; (try clear c0 c1 cf); obtain ⟨c0, c1⟩ := B0.out.two; have cf := B0.out.frozen)
    | (go_at_call 76; refine (HV.out _).mono ?_; rintro e x ⟨rfl, hx⟩; have BX := Lib.hid ((BoxC.new _ _ _).up hx); have hxx := Lib.hid hx; replace B0 := Lib.hid ((B0.out.up ((Up.refl _).alloc _)).up hx); replace HU0 := Lib.hid ((HU0.out.alloc _).trans hx); clear hx; (try clear c0 c1 cf); obtain ⟨c0, c1⟩ := B0.out.two; have cf := B0.out.frozen; obtain ⟨v0, v1⟩ := BX.out.two))
      have HF := Lib.hid ((HU0.out.setCell (p := ⟨w.heap.size, 0, none⟩) (Nat.le_refl _) (.int .i64 0)).setCell (p := ⟨w.heap.size, 1, none⟩) (Nat.le_refl _) (.int .i64 0))
      refine bodyPost_ret (v := .tuple #[.agg #[.int .i64 0, .int .i64 0], .int .i64 5]) (by simp [results, Tryz.results93, go_sem, *]) rfl ?_
      have hh := HR.out
      rw [if_pos (.inr ⟨(by simp), p0.out⟩)] at hh
      obtain ⟨hh1, rfl⟩ := Prod.mk.inj hh
      obtain ⟨rfl, rfl⟩ := Prod.mk.inj hh1
      exact ⟨rfl, HF.out⟩
    have n0 : dg ≠ [48] := fun h => by rw [h] at e0; cases e0
    rw [e0] at q1
    replace q1 := q1.symm
    have hno : ¬ (decB dg = false ∨ true = true ∧ dg = [48]) := fun h => h.elim (fun h => by rw [hd1] at h; cases h) (fun h => n0 h.2)
    cases sl
    · have hns : ¬ (false = true ∧ (decB bt = false ∨ bt = [48] ∨ bt = [49])) := fun h => by cases h.1
      have HR2 : Hid (fprG true (bndF dg) (bndF [49]) = ((r1, r2), r3)) := Lib.hid (by have hh := HR.out; rw [if_neg hno, if_neg hns] at hh; exact hh)
      clear HR hns
      have HDR : Hid (R64 (bndF [49]).1) := Lib.hid (bndF_R _)
      generalize bndF [49] = db at *
      generalize bndF dg = nb at *
      obtain ⟨n, nok⟩ := nb
      obtain ⟨d, dok⟩ := db
      unfold fprG at HR2
      have HR := HR2
      clear HR2
      cases nok
      · go_enter Tryz.func93, Tryz.ntmps93
        go_wp2_with (first
    | (go_at_call 130; refine (HC.out _ HU0.out).mono ?_; rintro e x ⟨rfl, hx⟩; replace HU0 := Lib.hid (HU0.out.trans hx); replace B0 := Lib.hid (B0.out.up hx); clear hx; (try clear c0 c1 cf); obtain ⟨c0, c1⟩ := B0.out.two; have cf := B0.out.frozen)
    | (go_at_call 131; refine (HP.out _).mono ?_; rintro e x ⟨rfl, hx⟩; replace HU0 := Lib.hid (HU0.out.trans hx); replace B0 := Lib.hid (B0.out.up hx); clear hx; (try clear c0 c1 cf); obtain ⟨c0, c1⟩ := B0.out.two; have cf := B0.out.frozen)
    | (go_at_call 132; (first | (with_reducible refine (HD1.out _).mono ?_) | (with_reducible refine (HD2.out _).mono ?_)); rintro e x ⟨rfl, hx⟩; replace HU0 := Lib.hid (HU0.out.trans hx); replace B0 := Lib.hid (B0.out.up hx); clear hx; (try clear c0 c1 cf); obtain ⟨c0, c1⟩ := B0.out.two; have cf := B0.out.frozen)
    | (go_at_call 133; (first | (with_reducible refine (HB1.out _ HU0.out).mono ?_) | (with_reducible refine (HB2.out _ HU0.out).mono ?_) | (with_reducible refine (HB3.out _ HU0.out).mono ?_)); rintro e x ⟨rfl, hx⟩; replace HU0 := Lib.hid (HU0.out.trans hx); replace B0 := Lib.hid (B0.out.up hx); clear hx; (try clear c0 c1 cf); obtain ⟨c0, c1⟩ := B0.out.two; have cf := B0.out.frozen)
    | (go_at_call 76; refine (HV.out _).mono ?_; rintro e x ⟨rfl, hx⟩; have BX := Lib.hid ((BoxC.new _ _ _).up hx); have hxx := Lib.hid hx; replace B0 := Lib.hid ((B0.out.up ((Up.refl _).alloc _)).up hx); replace HU0 := Lib.hid ((HU0.out.alloc _).trans hx); clear hx; (try clear c0 c1 cf); obtain ⟨c0, c1⟩ := B0.out.two; have cf := B0.out.frozen; obtain ⟨v0, v1⟩ := BX.out.two))
        have HF := Lib.hid ((HU0.out.setCell (p := ⟨w.heap.size, 0, none⟩) (Nat.le_refl _) (.int .i64 0)).setCell (p := ⟨w.heap.size, 1, none⟩) (Nat.le_refl _) (.int .i64 0))
        refine bodyPost_ret (v := .tuple #[.agg #[.int .i64 0, .int .i64 0], .int .i64 3]) (by simp [results, Tryz.results93, go_sem, *]) rfl ?_
        have hh := HR.out
        rw [if_pos (by simp)] at hh
        obtain ⟨hh1, rfl⟩ := Prod.mk.inj hh
        obtain ⟨rfl, rfl⟩ := Prod.mk.inj hh1
        exact ⟨rfl, HF.out⟩
      cases dok
      · go_enter Tryz.func93, Tryz.ntmps93
        go_wp2_with (first
    | (go_at_call 130; refine (HC.out _ HU0.out).mono ?_; rintro e x ⟨rfl, hx⟩; replace HU0 := Lib.hid (HU0.out.trans hx); replace B0 := Lib.hid (B0.out.up hx); clear hx; (try clear c0 c1 cf); obtain ⟨c0, c1⟩ := B0.out.two; have cf := B0.out.frozen)
    | (go_at_call 131; refine (HP.out _).mono ?_; rintro e x ⟨rfl, hx⟩; replace HU0 := Lib.hid (HU0.out.trans hx); replace B0 := Lib.hid (B0.out.up hx); clear hx; (try clear c0 c1 cf); obtain ⟨c0, c1⟩ := B0.out.two; have cf := B0.out.frozen)
    | (go_at_call 132; (first | (with_reducible refine (HD1.out _).mono ?_) | (with_reducible refine (HD2.out _).mono ?_)); rintro e x ⟨rfl, hx⟩; replace HU0 := Lib.hid (HU0.out.trans hx); replace B0 := Lib.hid (B0.out.up hx); clear hx; (try clear c0 c1 cf); obtain ⟨c0, c1⟩ := B0.out.two; have cf := B0.out.frozen)
    | (go_at_call 133; (first | (with_reducible refine (HB1.out _ HU0.out).mono ?_) | (with_reducible refine (HB2.out _ HU0.out).mono ?_) | (with_reducible refine (HB3.out _ HU0.out).mono ?_)); rintro e x ⟨rfl, hx⟩; replace HU0 := Lib.hid (HU0.out.trans hx); replace B0 := Lib.hid (B0.out.up hx); clear hx; (try clear c0 c1 cf); obtain ⟨c0, c1⟩ := B0.out.two; have cf := B0.out.frozen)
    | (go_at_call 76; refine (HV.out _).mono ?_; rintro e x ⟨rfl, hx⟩; have BX := Lib.hid ((BoxC.new _ _ _).up hx); have hxx := Lib.hid hx; replace B0 := Lib.hid ((B0.out.up ((Up.refl _).alloc _)).up hx); replace HU0 := Lib.hid ((HU0.out.alloc _).trans hx); clear hx; (try clear c0 c1 cf); obtain ⟨c0, c1⟩ := B0.out.two; have cf := B0.out.frozen; obtain ⟨v0, v1⟩ := BX.out.two))
        have HF := Lib.hid ((HU0.out.setCell (p := ⟨w.heap.size, 0, none⟩) (Nat.le_refl _) (.int .i64 0)).setCell (p := ⟨w.heap.size, 1, none⟩) (Nat.le_refl _) (.int .i64 0))
        refine bodyPost_ret (v := .tuple #[.agg #[.int .i64 0, .int .i64 0], .int .i64 3]) (by simp [results, Tryz.results93, go_sem, *]) rfl ?_
        have hh := HR.out
        rw [if_pos (by simp)] at hh
        obtain ⟨hh1, rfl⟩ := Prod.mk.inj hh
        obtain ⟨rfl, rfl⟩ := Prod.mk.inj hh1
        exact ⟨rfl, HF.out⟩
      cases hv : validF (wrap64 (-n)) d
      · have HV := Lib.hid (fun x => frac_Valid (wrap64 (-n)) d false hv (wrap64_R _).1 (wrap64_R _).2 x)
        go_enter Tryz.func93, Tryz.ntmps93
        go_wp2_with (first
    | (go_at_call 130; refine (HC.out _ HU0.out).mono ?_; rintro e x ⟨rfl, hx⟩; replace HU0 := Lib.hid (HU0.out.trans hx); replace B0 := Lib.hid (B0.out.up hx); clear hx; (try clear c0 c1 cf); obtain ⟨c0, c1⟩ := B0.out.two; have cf := B0.out.frozen)
    | (go_at_call 131; refine (HP.out _).mono ?_; rintro e x ⟨rfl, hx⟩; replace HU0 := Lib.hid (HU0.out.trans hx); replace B0 := Lib.hid (B0.out.up hx); clear hx; (try clear c0 c1 cf); obtain ⟨c0, c1⟩ := B0.out.two; have cf := B0.out.frozen)
    | (go_at_call 132; (first | (with_reducible refine (HD1.out _).mono ?_) | (with_reducible refine (HD2.out _).mono ?_)); rintro e x ⟨rfl, hx⟩; replace HU0 := Lib.hid (HU0.out.trans hx); replace B0 := Lib.hid (B0.out.up hx); clear hx; (try clear c0 c1 cf); obtain ⟨c0, c1⟩ := B0.out.two; have cf := B0.out.frozen)
    | (go_at_call 133; (first | (with_reducible refine (HB1.out _ HU0.out).mono ?_) | (with_reducible refine (HB2.out _ HU0.out).mono ?_) | (with_reducible refine (HB3.out _ HU0.out).mono ?_)); rintro e x ⟨rfl, hx⟩; replace HU0 := Lib.hid (HU0.out.trans hx); replace B0 := Lib.hid (B0.out.up hx); clear hx; (try clear c0 c1 cf); obtain ⟨c0, c1⟩ := B0.out.two; have cf := B0.out.frozen)
    | (go_at_call 76; refine (HV.out _).mono ?_; rintro e x ⟨rfl, hx⟩; have BX := Lib.hid ((BoxC.new _ _ _).up hx); have hxx := Lib.hid hx; replace B0 := Lib.hid ((B0.out.up ((Up.refl _).alloc _)).up hx); replace HU0 := Lib.hid ((HU0.out.alloc _).trans hx); clear hx; (try clear c0 c1 cf); obtain ⟨c0, c1⟩ := B0.out.two; have cf := B0.out.frozen; obtain ⟨v0, v1⟩ := BX.out.two))
        have HF := Lib.hid ((HU0.out.setCell (p := ⟨w.heap.size, 0, none⟩) (Nat.le_refl _) (.int .i64 0)).setCell (p := ⟨w.heap.size, 1, none⟩) (Nat.le_refl _) (.int .i64 0))
        refine bodyPost_ret (v := .tuple #[.agg #[.int .i64 0, .int .i64 0], .int .i64 5]) (by simp [results, Tryz.results93, go_sem, *]) rfl ?_
        have hh := HR.out
        rw [if_neg (by simp)] at hh; have hh := hh; simp only [if_true, hv] at hh
        obtain ⟨hh1, rfl⟩ := Prod.mk.inj hh
        obtain ⟨rfl, rfl⟩ := Prod.mk.inj hh1
        exact ⟨rfl, HF.out⟩
      · have HV := Lib.hid (fun x => frac_Valid (wrap64 (-n)) d true hv (wrap64_R _).1 (wrap64_R _).2 x)
        go_enter Tryz.func93, Tryz.ntmps93
        go_wp2_with (first
    | (go_at_call 130; refine (HC.out _ HU0.out).mono ?_; rintro e x ⟨rfl, hx⟩; replace HU0 := Lib.hid (HU0.out.trans hx); replace B0 := Lib.hid (B0.out.up hx); clear hx; (try clear c0 c1 cf); obtain ⟨c0, c1⟩ := B0.out.two; have cf := B0.out.frozen)
    | (go_at_call 131; refine (HP.out _).mono ?_; rintro e x ⟨rfl, hx⟩; replace HU0 := Lib.hid (HU0.out.trans hx); replace B0 := Lib.hid (B0.out.up hx); clear hx; (try clear c0 c1 cf); obtain ⟨c0, c1⟩ := B0.out.two; have cf := B0.out.frozen)
    | (go_at_call 132; (first | (with_reducible refine (HD1.out _).mono ?_) | (with_reducible refine (HD2.out _).mono ?_)); rintro e x ⟨rfl, hx⟩; replace HU0 := Lib.hid (HU0.out.trans hx); replace B0 := Lib.hid (B0.out.up hx); clear hx; (try clear c0 c1 cf); obtain ⟨c0, c1⟩ := B0.out.two; have cf := B0.out.frozen)
    | (go_at_call 133; (first | (with_reducible refine (HB1.out _ HU0.out).mono ?_) | (with_reducible refine (HB2.out _ HU0.out).mono ?_) | (with_reducible refine (HB3.out _ HU0.out).mono ?_)); rintro e x ⟨rfl, hx⟩; replace HU0 := Lib.hid (HU0.out.trans hx); replace B0 := Lib.hid (B0.out.up hx); clear hx; (try clear c0 c1 cf); obtain ⟨c0, c1⟩ := B0.out.two; have cf := B0.out.frozen)
    | (go_at_call 76; refine (HV.out _).mono ?_; rintro e x ⟨rfl, hx⟩; have BX := Lib.hid ((BoxC.new _ _ _).up hx); have hxx := Lib.hid hx; replace B0 := Lib.hid ((B0.out.up ((Up.refl _).alloc _)).up hx); replace HU0 := Lib.hid ((HU0.out.alloc _).trans hx); clear hx; (try clear c0 c1 cf); obtain ⟨c0, c1⟩ := B0.out.two; have cf := B0.out.frozen; obtain ⟨v0, v1⟩ := BX.out.two))
        have HF := Lib.hid ((HU0.out.setCell (p := ⟨w.heap.size, 0, none⟩) (Nat.le_refl _) (.int .i64 (wrap64 (-n)))).setCell (p := ⟨w.heap.size, 1, none⟩) (Nat.le_refl _) (.int .i64 d))
        refine bodyPost_ret (v := .tuple #[.agg #[.int .i64 (wrap64 (-n)), .int .i64 d], .int .i64 0]) (by simp [results, Tryz.results93, go_sem, *]) rfl ?_
        have hh := HR.out
        rw [if_neg (by simp)] at hh; have hh := hh; simp only [if_true, hv] at hh
        obtain ⟨hh1, rfl⟩ := Prod.mk.inj hh
        obtain ⟨rfl, rfl⟩ := Prod.mk.inj hh1
        exact ⟨rfl, HF.out⟩
    · cases hd2 : decB bt
      · rw [hd2] at HD2
        go_enter Tryz.func93, Tryz.ntmps93
        go_wp2_with (first
    | (go_at_call 130; refine (HC.out _ HU0.out).mono ?_; rintro e x ⟨rfl, hx⟩; replace HU0 := Lib.hid (HU0.out.trans hx); replace B0 := Lib.hid (B0.out.up hx); clear hx; (try clear c0 c1 cf); obtain ⟨c0, c1⟩ := B0.out.two; have cf := B0.out.frozen)
    | (go_at_call 131; refine (HP.out _).mono ?_; rintro e x ⟨rfl, hx⟩; replace HU0 := Lib.hid (HU0.out.trans hx); replace B0 := Lib.hid (B0.out.up hx); clear hx; (try clear c0 c1 cf); obtain ⟨c0, c1⟩ := B0.out.two; have cf := B0.out.frozen)
    | (go_at_call 132; (first | (with_reducible refine (HD1.out _).mono ?_) | (with_reducible refine (HD2.out _).mono ?_)); rintro e x ⟨rfl, hx⟩; replace HU0 := Lib.hid (HU0.out.trans hx); replace B0 := Lib.hid (B0.out.up hx); clear hx; (try clear c0 c1 cf); obtain ⟨c0, c1⟩ := B0.out.two; have cf := B0.out.frozen)
    | (go_at_call 133; (first | (with_reducible refine (HB1.out _ HU0.out).mono ?_) | (with_reducible refine (HB2.out _ HU0.out).mono ?_) | (with_reducible refine (HB3.out _ HU0.out).mono ?_)); rintro e x ⟨rfl, hx⟩; replace HU0 := Lib.hid (HU0.out.trans hx); replace B0 := Lib.hid (B0.out.up hx); clear hx; (try clear c0 c1 cf); obtain ⟨c0, c1⟩ := B0.out.two; have cf := B0.out.frozen)
    | (go_at_call 76; refine (HV.out _).mono ?_; rintro e x ⟨rfl, hx⟩; have BX := Lib.hid ((BoxC.new _ _ _).up hx); have hxx := Lib.hid hx; replace B0 := Lib.hid ((B0.out.up ((Up.refl _).alloc _)).up hx); replace HU0 := Lib.hid ((HU0.out.alloc _).trans hx); clear hx; (try clear c0 c1 cf); obtain ⟨c0, c1⟩ := B0.out.two; have cf := B0.out.frozen; obtain ⟨v0, v1⟩ := BX.out.two))
        have HF := Lib.hid ((HU0.out.setCell (p := ⟨w.heap.size, 0, none⟩) (Nat.le_refl _) (.int .i64 0)).setCell (p := ⟨w.heap.size, 1, none⟩) (Nat.le_refl _) (.int .i64 0))
        refine bodyPost_ret (v := .tuple #[.agg #[.int .i64 0, .int .i64 0], .int .i64 5]) (by simp [results, Tryz.results93, go_sem, *]) rfl ?_
        have hh := HR.out
        rw [if_neg hno, if_pos ⟨(by simp), .inl hd2⟩] at hh
        obtain ⟨hh1, rfl⟩ := Prod.mk.inj hh
        obtain ⟨rfl, rfl⟩ := Prod.mk.inj hh1
        exact ⟨rfl, HF.out⟩
      rw [hd2] at HD2
      cases e48 : bt == [48]
      rotate_left
      · have p48 := Lib.hid (eq_of_beq e48)
        rw [e48] at q2
        clear e48 q3
        replace q2 := q2.symm
        go_enter Tryz.func93, Tryz.ntmps93
        go_wp2_with (first
    | (go_at_call 130; refine (HC.out _ HU0.out).mono ?_; rintro e x ⟨rfl, hx⟩; replace HU0 := Lib.hid (HU0.out.trans hx); replace B0 := Lib.hid (B0.out.up hx); clear hx; (try clear c0 c1 cf); obtain ⟨c0, c1⟩ := B0.out.two; have cf := B0.out.frozen)
    | (go_at_call 131; refine (HP.out _).mono ?_; rintro e x ⟨rfl, hx⟩; replace HU0 := Lib.hid (HU0.out.trans hx); replace B0 := Lib.hid (B0.out.up hx); clear hx; (try clear c0 c1 cf); obtain ⟨c0, c1⟩ := B0.out.two; have cf := B0.out.frozen)
    | (go_at_call 132; (first | (with_reducible refine (HD1.out _).mono ?_) | (with_reducible refine (HD2.out _).mono ?_)); rintro e x ⟨rfl, hx⟩; replace HU0 := Lib.hid (HU0.out.trans hx); replace B0 := Lib.hid (B0.out.up hx); clear hx; (try clear c0 c1 cf); obtain ⟨c0, c1⟩ := B0.out.two; have cf := B0.out.frozen)
    | (go_at_call 133; (first | (with_reducible refine (HB1.out _ HU0.out).mono ?_) | (with_reducible refine (HB2.out _ HU0.out).mono ?_) | (with_reducible refine (HB3.out _ HU0.out).mono ?_)); rintro e x ⟨rfl, hx⟩; replace HU0 := Lib.hid (HU0.out.trans hx); replace B0 := Lib.hid (B0.out.up hx); clear hx; (try clear c0 c1 cf); obtain ⟨c0, c1⟩ := B0.out.two; have cf := B0.out.frozen)
    | (go_at_call 76; refine (HV.out _).mono ?_; rintro e x ⟨rfl, hx⟩; have BX := Lib.hid ((BoxC.new _ _ _).up hx); have hxx := Lib.hid hx; replace B0 := Lib.hid ((B0.out.up ((Up.refl _).alloc _)).up hx); replace HU0 := Lib.hid ((HU0.out.alloc _).trans hx); clear hx; (try clear c0 c1 cf); obtain ⟨c0, c1⟩ := B0.out.two; have cf := B0.out.frozen; obtain ⟨v0, v1⟩ := BX.out.two))
        have HF := Lib.hid ((HU0.out.setCell (p := ⟨w.heap.size, 0, none⟩) (Nat.le_refl _) (.int .i64 0)).setCell (p := ⟨w.heap.size, 1, none⟩) (Nat.le_refl _) (.int .i64 0))
        refine bodyPost_ret (v := .tuple #[.agg #[.int .i64 0, .int .i64 0], .int .i64 5]) (by simp [results, Tryz.results93, go_sem, *]) rfl ?_
        have hh := HR.out
        rw [if_neg hno, if_pos ⟨(by simp), .inr (.inl p48.out)⟩] at hh
        obtain ⟨hh1, rfl⟩ := Prod.mk.inj hh
        obtain ⟨rfl, rfl⟩ := Prod.mk.inj hh1
        exact ⟨rfl, HF.out⟩
      have n48 : bt ≠ [48] := fun h => by rw [h] at e48; cases e48
      rw [e48] at q2
      replace q2 := q2.symm
      cases e49 : bt == [49]
      rotate_left
      · have p49 := Lib.hid (eq_of_beq e49)
        rw [e49] at q3
        clear e49
        replace q3 := q3.symm
        go_enter Tryz.func93, Tryz.ntmps93
        go_wp2_with (first
    | (go_at_call 130; refine (HC.out _ HU0.out).mono ?_; rintro e x ⟨rfl, hx⟩; replace HU0 := Lib.hid (HU0.out.trans hx); replace B0 := Lib.hid (B0.out.up hx); clear hx; (try clear c0 c1 cf); obtain ⟨c0, c1⟩ := B0.out.two; have cf := B0.out.frozen)
    | (go_at_call 131; refine (HP.out _).mono ?_; rintro e x ⟨rfl, hx⟩; replace HU0 := Lib.hid (HU0.out.trans hx); replace B0 := Lib.hid (B0.out.up hx); clear hx; (try clear c0 c1 cf); obtain ⟨c0, c1⟩ := B0.out.two; have cf := B0.out.frozen)
    | (go_at_call 132; (first | (with_reducible refine (HD1.out _).mono ?_) | (with_reducible refine (HD2.out _).mono ?_)); rintro e x ⟨rfl, hx⟩; replace HU0 := Lib.hid (HU0.out.trans hx); replace B0 := Lib.hid (B0.out.up hx); clear hx; (try clear c0 c1 cf); obtain ⟨c0, c1⟩ := B0.out.two; have cf := B0.out.frozen)
    | (go_at_call 133; (first | (with_reducible refine (HB1.out _ HU0.out).mono ?_) | (with_reducible refine (HB2.out _ HU0.out).mono ?_) | (with_reducible refine (HB3.out _ HU0.out).mono ?_)); rintro e x ⟨rfl, hx⟩; replace HU0 := Lib.hid (HU0.out.trans hx); replace B0 := Lib.hid (B0.out.up hx); clear hx; (try clear c0 c1 cf); obtain ⟨c0, c1⟩ := B0.out.two; have cf := B0.out.frozen)
    | (go_at_call 76; refine (HV.out _).mono ?_; rintro e x ⟨rfl, hx⟩; have BX := Lib.hid ((BoxC.new _ _ _).up hx); have hxx := Lib.hid hx; replace B0 := Lib.hid ((B0.out.up ((Up.refl _).alloc _)).up hx); replace HU0 := Lib.hid ((HU0.out.alloc _).trans hx); clear hx; (try clear c0 c1 cf); obtain ⟨c0, c1⟩ := B0.out.two; have cf := B0.out.frozen; obtain ⟨v0, v1⟩ := BX.out.two))
        have HF := Lib.hid ((HU0.out.setCell (p := ⟨w.heap.size, 0, none⟩) (Nat.le_refl _) (.int .i64 0)).setCell (p := ⟨w.heap.size, 1, none⟩) (Nat.le_refl _) (.int .i64 0))
        refine bodyPost_ret (v := .tuple #[.agg #[.int .i64 0, .int .i64 0], .int .i64 5]) (by simp [results, Tryz.results93, go_sem, *]) rfl ?_
        have hh := HR.out
        rw [if_neg hno, if_pos ⟨(by simp), .inr (.inr p49.out)⟩] at hh
        obtain ⟨hh1, rfl⟩ := Prod.mk.inj hh
        obtain ⟨rfl, rfl⟩ := Prod.mk.inj hh1
        exact ⟨rfl, HF.out⟩
      have n49 : bt ≠ [49] := fun h => by rw [h] at e49; cases e49
      rw [e49] at q3
      replace q3 := q3.symm
      have hns : ¬ (true = true ∧ (decB bt = false ∨ bt = [48] ∨ bt = [49])) := fun h => h.2.elim (fun h => by rw [hd2] at h; cases h) (fun h => h.elim n48 n49)
      have HR2 : Hid (fprG true (bndF dg) (bndF bt) = ((r1, r2), r3)) := Lib.hid (by have hh := HR.out; rw [if_neg hno, if_neg hns] at hh; exact hh)
      clear HR hns
      have HDR : Hid (R64 (bndF bt).1) := Lib.hid (bndF_R _)
      generalize bndF bt = db at *
      generalize bndF dg = nb at *
      obtain ⟨n, nok⟩ := nb
      obtain ⟨d, dok⟩ := db
      unfold fprG at HR2
      have HR := HR2
      clear HR2
      cases nok
      · go_enter Tryz.func93, Tryz.ntmps93
        go_wp2_with (first
    | (go_at_call 130; refine (HC.out _ HU0.out).mono ?_; rintro e x ⟨rfl, hx⟩; replace HU0 := Lib.hid (HU0.out.trans hx); replace B0 := Lib.hid (B0.out.up hx); clear hx; (try clear c0 c1 cf); obtain ⟨c0, c1⟩ := B0.out.two; have cf := B0.out.frozen)
    | (go_at_call 131; refine (HP.out _).mono ?_; rintro e x ⟨rfl, hx⟩; replace HU0 := Lib.hid (HU0.out.trans hx); replace B0 := Lib.hid (B0.out.up hx); clear hx; (try clear c0 c1 cf); obtain ⟨c0, c1⟩ := B0.out.two; have cf := B0.out.frozen)
    | (go_at_call 132; (first | (with_reducible refine (HD1.out _).mono ?_) | (with_reducible refine (HD2.out _).mono ?_)); rintro e x ⟨rfl, hx⟩; replace HU0 := Lib.hid (HU0.out.trans hx); replace B0 := Lib.hid (B0.out.up hx); clear hx; (try clear c0 c1 cf); obtain ⟨c0, c1⟩ := B0.out.two; have cf := B0.out.frozen)
    | (go_at_call 133; (first | (with_reducible refine (HB1.out _ HU0.out).mono ?_) | (with_reducible refine (HB2.out _ HU0.out).mono ?_) | (with_reducible refine (HB3.out _ HU0.out).mono ?_)); rintro e x ⟨rfl, hx⟩; replace HU0 := Lib.hid (HU0.out.trans hx); replace B0 := Lib.hid (B0.out.up hx); clear hx; (try clear c0 c1 cf); obtain ⟨c0, c1⟩ := B0.out.two; have cf := B0.out.frozen)
    | (go_at_call 76; refine (HV.out _).mono ?_; rintro e x ⟨rfl, hx⟩; have BX := Lib.hid ((BoxC.new _ _ _).up hx); have hxx := Lib.hid hx; replace B0 := Lib.hid ((B0.out.up ((Up.refl _).alloc _)).up hx); replace HU0 := Lib.hid ((HU0.out.alloc _).trans hx); clear hx; (try clear c0 c1 cf); obtain ⟨c0, c1⟩ := B0.out.two; have cf := B0.out.frozen; obtain ⟨v0, v1⟩ := BX.out.two))
        have HF := Lib.hid ((HU0.out.setCell (p := ⟨w.heap.size, 0, none⟩) (Nat.le_refl _) (.int .i64 0)).setCell (p := ⟨w.heap.size, 1, none⟩) (Nat.le_refl _) (.int .i64 0))
        refine bodyPost_ret (v := .tuple #[.agg #[.int .i64 0, .int .i64 0], .int .i64 3]) (by simp [results, Tryz.results93, go_sem, *]) rfl ?_
        have hh := HR.out
        rw [if_pos (by simp)] at hh
        obtain ⟨hh1, rfl⟩ := Prod.mk.inj hh
        obtain ⟨rfl, rfl⟩ := Prod.mk.inj hh1
        exact ⟨rfl, HF.out⟩
      cases dok
      · go_enter Tryz.func93, Tryz.ntmps93
        go_wp2_with (first
    | (go_at_call 130; refine (HC.out _ HU0.out).mono ?_; rintro e x ⟨rfl, hx⟩; replace HU0 := Lib.hid (HU0.out.trans hx); replace B0 := Lib.hid (B0.out.up hx); clear hx; (try clear c0 c1 cf); obtain ⟨c0, c1⟩ := B0.out.two; have cf := B0.out.frozen)
    | (go_at_call 131; refine (HP.out _).mono ?_; rintro e x ⟨rfl, hx⟩; replace HU0 := Lib.hid (HU0.out.trans hx); replace B0 := Lib.hid (B0.out.up hx); clear hx; (try clear c0 c1 cf); obtain ⟨c0, c1⟩ := B0.out.two; have cf := B0.out.frozen)
    | (go_at_call 132; (first | (with_reducible refine (HD1.out _).mono ?_) | (with_reducible refine (HD2.out _).mono ?_)); rintro e x ⟨rfl, hx⟩; replace HU0 := Lib.hid (HU0.out.trans hx); replace B0 := Lib.hid (B0.out.up hx); clear hx; (try clear c0 c1 cf); obtain ⟨c0, c1⟩ := B0.out.two; have cf := B0.out.frozen)
    | (go_at_call 133; (first | (with_reducible refine (HB1.out _ HU0.out).mono ?_) | (with_reducible refine (HB2.out _ HU0.out).mono ?_) | (with_reducible refine (HB3.out _ HU0.out).mono ?_)); rintro e x ⟨rfl, hx⟩; replace HU0 := Lib.hid (HU0.out.trans hx); replace B0 := Lib.hid (B0.out.up hx); clear hx; (try clear c0 c1 cf); obtain ⟨c0, c1⟩ := B0.out.two; have cf := B0.out.frozen)
    | (go_at_call 76; refine (HV.out _).mono ?_; rintro e x ⟨rfl, hx⟩; have BX := Lib.hid ((BoxC.new _ _ _).up hx); have hxx := Lib.hid hx; replace B0 := Lib.hid ((B0.out.up ((Up.refl _).alloc _)).up hx); replace HU0 := Lib.hid ((HU0.out.alloc _).trans hx); clear hx; (try clear c0 c1 cf); obtain ⟨c0, c1⟩ := B0.out.two; have cf := B0.out.frozen; obtain ⟨v0, v1⟩ := BX.out.two))
        have HF := Lib.hid ((HU0.out.setCell (p := ⟨w.heap.size, 0, none⟩) (Nat.le_refl _) (.int .i64 0)).setCell (p := ⟨w.heap.size, 1, none⟩) (Nat.le_refl _) (.int .i64 0))
        refine bodyPost_ret (v := .tuple #[.agg #[.int .i64 0, .int .i64 0], .int .i64 3]) (by simp [results, Tryz.results93, go_sem, *]) rfl ?_
        have hh := HR.out
        rw [if_pos (by simp)] at hh
        obtain ⟨hh1, rfl⟩ := Prod.mk.inj hh
        obtain ⟨rfl, rfl⟩ := Prod.mk.inj hh1
        exact ⟨rfl, HF.out⟩
      cases hv : validF (wrap64 (-n)) d
      · have HV := Lib.hid (fun x => frac_Valid (wrap64 (-n)) d false hv (wrap64_R _).1 (wrap64_R _).2 x)
        go_enter Tryz.func93, Tryz.ntmps93
        go_wp2_with (first
    | (go_at_call 130; refine (HC.out _ HU0.out).mono ?_; rintro e x ⟨rfl, hx⟩; replace HU0 := Lib.hid (HU0.out.trans hx); replace B0 := Lib.hid (B0.out.up hx); clear hx; (try clear c0 c1 cf); obtain ⟨c0, c1⟩ := B0.out.two; have cf := B0.out.frozen)
    | (go_at_call 131; refine (HP.out _).mono ?_; rintro e x ⟨rfl, hx⟩; replace HU0 := Lib.hid (HU0.out.trans hx); replace B0 := Lib.hid (B0.out.up hx); clear hx; (try clear c0 c1 cf); obtain ⟨c0, c1⟩ := B0.out.two; have cf := B0.out.frozen)
    | (go_at_call 132; (first | (with_reducible refine (HD1.out _).mono ?_) | (with_reducible refine (HD2.out _).mono ?_)); rintro e x ⟨rfl, hx⟩; replace HU0 := Lib.hid (HU0.out.trans hx); replace B0 := Lib.hid (B0.out.up hx); clear hx; (try clear c0 c1 cf); obtain ⟨c0, c1⟩ := B0.out.two; have cf := B0.out.frozen)
    | (go_at_call 133; (first | (with_reducible refine (HB1.out _ HU0.out).mono ?_) | (with_reducible refine (HB2.out _ HU0.out).mono ?_) | (with_reducible refine (HB3.out _ HU0.out).mono ?_)); rintro e x ⟨rfl, hx⟩; replace HU0 := Lib.hid (HU0.out.trans hx); replace B0 := Lib.hid (B0.out.up hx); clear hx; (try clear c0 c1 cf); obtain ⟨c0, c1⟩ := B0.out.two; have cf := B0.out.frozen)
    | (go_at_call 76; refine (HV.out _).mono ?_; rintro e x ⟨rfl, hx⟩; have BX := Lib.hid ((BoxC.new _ _ _).up hx); have hxx := Lib.hid hx; replace B0 := Lib.hid ((B0.out.up ((Up.refl _).alloc _)).up hx); replace HU0 := Lib.hid ((HU0.out.alloc _).trans hx); clear hx; (try clear c0 c1 cf); obtain ⟨c0, c1⟩ := B0.out.two; have cf := B0.out.frozen; obtain ⟨v0, v1⟩ := BX.out.two))
        have HF := Lib.hid ((HU0.out.setCell (p := ⟨w.heap.size, 0, none⟩) (Nat.le_refl _) (.int .i64 0)).setCell (p := ⟨w.heap.size, 1, none⟩) (Nat.le_refl _) (.int .i64 0))
        refine bodyPost_ret (v := .tuple #[.agg #[.int .i64 0, .int .i64 0], .int .i64 5]) (by simp [results, Tryz.results93, go_sem, *]) rfl ?_
        have hh := HR.out
        rw [if_neg (by simp)] at hh; have hh := hh; simp only [if_true, hv] at hh
        obtain ⟨hh1, rfl⟩ := Prod.mk.inj hh
        obtain ⟨rfl, rfl⟩ := Prod.mk.inj hh1
        exact ⟨rfl, HF.out⟩
      · have HV := Lib.hid (fun x => frac_Valid (wrap64 (-n)) d true hv (wrap64_R _).1 (wrap64_R _).2 x)
        go_enter Tryz.func93, Tryz.ntmps93
        go_wp2_with (first
    | (go_at_call 130; refine (HC.out _ HU0.out).mono ?_; rintro e x ⟨rfl, hx⟩; replace HU0 := Lib.hid (HU0.out.trans hx); replace B0 := Lib.hid (B0.out.up hx); clear hx; (try clear c0 c1 cf); obtain ⟨c0, c1⟩ := B0.out.two; have cf := B0.out.frozen)
    | (go_at_call 131; refine (HP.out _).mono ?_; rintro e x ⟨rfl, hx⟩; replace HU0 := Lib.hid (HU0.out.trans hx); replace B0 := Lib.hid (B0.out.up hx); clear hx; (try clear c0 c1 cf); obtain ⟨c0, c1⟩ := B0.out.two; have cf := B0.out.frozen)
    | (go_at_call 132; (first | (with_reducible refine (HD1.out _).mono ?_) | (with_reducible refine (HD2.out _).mono ?_)); rintro e x ⟨rfl, hx⟩; replace HU0 := Lib.hid (HU0.out.trans hx); replace B0 := Lib.hid (B0.out.up hx); clear hx; (try clear c0 c1 cf); obtain ⟨c0, c1⟩ := B0.out.two; have cf := B0.out.frozen)
    | (go_at_call 133; (first | (with_reducible refine (HB1.out _ HU0.out).mono ?_) | (with_reducible refine (HB2.out _ HU0.out).mono ?_) | (with_reducible refine (HB3.out _ HU0.out).mono ?_)); rintro e x ⟨rfl, hx⟩; replace HU0 := Lib.hid (HU0.out.trans hx); replace B0 := Lib.hid (B0.out.up hx); clear hx; (try clear c0 c1 cf); obtain ⟨c0, c1⟩ := B0.out.two; have cf := B0.out.frozen)
    | (go_at_call 76; refine (HV.out _).mono ?_; rintro e x ⟨rfl, hx⟩; have BX := Lib.hid ((BoxC.new _ _ _).up hx); have hxx := Lib.hid hx; replace B0 := Lib.hid ((B0.out.up ((Up.refl _).alloc _)).up hx); replace HU0 := Lib.hid ((HU0.out.alloc _).trans hx); clear hx; (try clear c0 c1 cf); obtain ⟨c0, c1⟩ := B0.out.two; have cf := B0.out.frozen; obtain ⟨v0, v1⟩ := BX.out.two))
        have HF := Lib.hid ((HU0.out.setCell (p := ⟨w.heap.size, 0, none⟩) (Nat.le_refl _) (.int .i64 (wrap64 (-n)))).setCell (p := ⟨w.heap.size, 1, none⟩) (Nat.le_refl _) (.int .i64 d))
        refine bodyPost_ret (v := .tuple #[.agg #[.int .i64 (wrap64 (-n)), .int .i64 d], .int .i64 0]) (by simp [results, Tryz.results93, go_sem, *]) rfl ?_
        have hh := HR.out
        rw [if_neg (by simp)] at hh; have hh := hh; simp only [if_true, hv] at hh
        obtain ⟨hh1, rfl⟩ := Prod.mk.inj hh
        obtain ⟨rfl, rfl⟩ := Prod.mk.inj hh1
        exact ⟨rfl, HF.out⟩

end Go.Proofs.YtlglfdhiopnglaaGreatDoor
