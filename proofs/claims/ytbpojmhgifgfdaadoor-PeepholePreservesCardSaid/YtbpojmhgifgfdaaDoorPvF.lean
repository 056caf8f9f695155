/-
  The reference 04: Value, Apply. Printed by mkPvF.py.
-/
import Derived.Test.YtbpojmhgifgfdaaDoorPvE
namespace Go.Proofs.YtbpojmhgifgfdaaDoor
open Go.ChangeShapes Go.WideShapes Go.ChangeAt Go.RowKit
set_option linter.unusedVariables false
set_option linter.unusedSimpArgs false
set_option maxRecDepth 100000

theorem typB_fix {bi fr ro ov : Int} (h : typB (2, bi, fr, ro, ov) = true) : 2 ≤ bi ∧ bi ≤ 31 ∧ 0 ≤ fr ∧ fr ≤ 30 := by
  simp only [typB, plainB, fixB, Bool.or_eq_true, Bool.and_eq_true, decide_eq_true_eq] at h
  omega
theorem stF_R (fr : Int) : R64 (stF fr) := r64_wrap _
def valueF (t : Typ) (n d : Int) : Int × Int := if t.1 = 2 then ((newF n (stF t.2.2.1)).1, (newF n (stF t.2.2.1)).2.1) else (n, d)
set_option maxHeartbeats 4000000 in
theorem r04_Value (t : Typ) (ht : typB t = true) (n d : Int) (hn : R64 n) (r : Int × Int) (hr : valueF t n d = r) (w : World) :
    Calls Tryd.prog 81 #[typV t, .agg #[.int .i64 n, .int .i64 d]] w fun e w' => e = .returned (.agg #[.int .i64 r.1, .int .i64 r.2]) ∧ Up w w' := by
  obtain ⟨kd, bi, fr, ro, ov⟩ := t
  dsimp only [typV]
  have HU : Hid (Up w (((w.alloc (.cells #[.int .i64 kd, .int .i64 bi, .int .i64 fr, .int .i64 ro, .int .i64 ov] 62)).alloc (.cells #[.int .i64 n, .int .i64 d] 60)).alloc (.cells #[.int .i64 0, .int .i64 0] 60))) := Lib.hid ((((Up.refl w).alloc _).alloc _).alloc _)
  have B0 : Hid (BoxC (((w.alloc (.cells #[.int .i64 kd, .int .i64 bi, .int .i64 fr, .int .i64 ro, .int .i64 ov] 62)).alloc (.cells #[.int .i64 n, .int .i64 d] 60)).alloc (.cells #[.int .i64 0, .int .i64 0] 60)) w.heap.size 62 #[.int .i64 kd, .int .i64 bi, .int .i64 fr, .int .i64 ro, .int .i64 ov]) := Lib.hid ((BoxC.new w _ _).up (((Up.refl _).alloc _).alloc _))
  have B1 : Hid (BoxC (((w.alloc (.cells #[.int .i64 kd, .int .i64 bi, .int .i64 fr, .int .i64 ro, .int .i64 ov] 62)).alloc (.cells #[.int .i64 n, .int .i64 d] 60)).alloc (.cells #[.int .i64 0, .int .i64 0] 60)) (w.heap.size + 1) 60 #[.int .i64 n, .int .i64 d]) := Lib.hid ((BoxC.new2 w _ _ _).up ((Up.refl _).alloc _))
  have B2 : Hid (BoxC (((w.alloc (.cells #[.int .i64 kd, .int .i64 bi, .int .i64 fr, .int .i64 ro, .int .i64 ov] 62)).alloc (.cells #[.int .i64 n, .int .i64 d] 60)).alloc (.cells #[.int .i64 0, .int .i64 0] 60)) (w.heap.size + 2) 60 #[.int .i64 0, .int .i64 0]) := Lib.hid (BoxC.new3 w _ _ _ _)
  by_cases h2 : kd = 2
  · subst h2
    obtain ⟨hb1, hb2, hf1, hf2⟩ := typB_fix ht
    obtain ⟨s, hs⟩ : ∃ s, stF fr = s := ⟨_, rfl⟩
    obtain ⟨⟨x1, x2, x3⟩, hx3⟩ : ∃ x, newF n s = x := ⟨_, rfl⟩
    have HS := Lib.hid (fun w => r04_step 2 bi fr ro ov s hs hf1 hf2 w)
    have HN := Lib.hid (fun w => r01_New n s hn (hs ▸ stF_R fr) (x1, x2, x3) hx3 w)
    unfold valueF at hr
    rw [if_pos rfl] at hr
    dsimp only at hr
    rw [hs, hx3] at hr
    obtain rfl := hr.symm
    clear hs hx3 ht
    obtain ⟨t0, t1, t2, t3, t4⟩ := B0.out.five
    obtain ⟨a0, a1⟩ := B1.out.two
    go_enter Tryd.func81, Tryd.ntmps81
    go_wp2
    go_region_with (first
      | (go_at_call 85; refine (HS.out _).mono ?_; rintro e x ⟨rfl, hx⟩; replace HU := Lib.hid (HU.out.drew.trans hx); replace B1 := Lib.hid ((B1.out.up (Up.refl _).drew).up hx); replace B2 := Lib.hid ((B2.out.up (Up.refl _).drew).up hx); clear hx a0 a1; obtain ⟨a0, a1⟩ := B1.out.two)
      | (go_at_call 89; refine (HN.out _).mono ?_; rintro e x ⟨rfl, hx⟩; replace HU := Lib.hid (HU.out.trans hx); replace B1 := Lib.hid (B1.out.up hx); replace B2 := Lib.hid (B2.out.up hx); clear hx a0 a1; obtain ⟨a0, a1⟩ := B1.out.two; obtain ⟨z0, z1⟩ := B2.out.two; have zf := B2.out.frozen; have af := B1.out.frozen))
    all_goals go_wp2
    all_goals
      refine bodyPost_ret (v := .agg #[.int .i64 x1, .int .i64 x2]) (by simp [results, Tryd.results81, go_sem, *]) rfl ?_
      exact ⟨rfl, (((HU.out.setCell (p := ⟨w.heap.size + 1, 0, none⟩) (by show w.heap.size ≤ w.heap.size + 1; omega) _).setCell (p := ⟨w.heap.size + 1, 1, none⟩) (by show w.heap.size ≤ w.heap.size + 1; omega) _).setCell (p := ⟨w.heap.size + 2, 0, none⟩) (by show w.heap.size ≤ w.heap.size + 2; omega) _).setCell (p := ⟨w.heap.size + 2, 1, none⟩) (by show w.heap.size ≤ w.heap.size + 2; omega) _⟩
  · have h2b : (kd == 2) = false := by simpa using h2
    unfold valueF at hr
    rw [if_neg h2] at hr
    obtain rfl := hr.symm
    clear ht
    go_enter Tryd.func81, Tryd.ntmps81
    go_wp2
    refine bodyPost_ret (v := .agg #[.int .i64 n, .int .i64 d]) (by simp [results, Tryd.results81, go_sem, *]) rfl ?_
    exact ⟨rfl, (((Up.refl w).alloc _).alloc _).alloc _⟩

def minmaxF (op : Int) (t : Typ) (n d p q : Int) : Int × Int × Int := if decide (0 < cmp4 t n d p q) = decide (op = 9) then (p, q, 0) else (n, d, 0)
def coreF (op : Int) (t : Typ) (n d p q : Int) : Int × Int × Int :=
  if op = 9 ∨ op = 10 then minmaxF op t n d p q
  else if t.1 = 2 then fixF t.2.1 t.2.2.1 t.2.2.2.1 t.2.2.2.2 op n p
  else if t.1 = 3 then wholF op n p
  else if op = 4 then addF n d p q else if op = 5 then subF n d p q else if op = 6 then mulF n d p q else if op = 7 then divF n d p q else ((negF n d).1, (negF n d).2, 0)
def applF (op : Int) (t : Typ) (n d p q : Int) : Int × Int × Int :=
  if op < 4 ∨ 10 < op then (0, 0, 1) else if typB t = false then (0, 0, 10)
  else if valT t n d = false ∨ (op ≠ 8 ∧ valT t p q = false) then (0, 0, 1) else coreF op t n d p q
set_option maxHeartbeats 8000000 in
theorem r04_Apply (op : Int) (t : Typ) (n d p q : Int) (hn : R64 n) (hp : R64 p) (r : Int × Int × Int) (hr : applF op t n d p q = r) (w : World) :
    Calls Tryd.prog 65 #[.int .i64 op, typV t, .agg #[.int .i64 n, .int .i64 d], .agg #[.int .i64 p, .int .i64 q]] w fun e w' => e = .returned (.tuple #[.agg #[.int .i64 r.1, .int .i64 r.2.1], .int .i64 r.2.2]) ∧ Up w w' := by
  obtain ⟨tb, htb⟩ : ∃ b, typB t = b := ⟨_, rfl⟩
  obtain ⟨va, hva⟩ : ∃ v, valT t n d = v := ⟨_, rfl⟩
  obtain ⟨vb, hvb⟩ : ∃ v, valT t p q = v := ⟨_, rfl⟩
  have HT := Lib.hid (fun w => base_Type t tb htb w)
  have HVA := Lib.hid (fun (h : tb = true) w => base_Val t (htb.trans h) n d hn va hva w)
  have HVB := Lib.hid (fun (h : tb = true) w => base_Val t (htb.trans h) p q hp vb hvb w)
  have HFX := Lib.hid (fun (h : tb = true) (h2 : t.1 = 2) (r : Int × Int × Int) (hr : fixF t.2.1 t.2.2.1 t.2.2.2.1 t.2.2.2.2 op n p = r) w => (show Calls Tryd.prog 74 #[.int .i64 op, typV t, .int .i64 n, .int .i64 p] w fun e w' => e = .returned (.tuple #[.agg #[.int .i64 r.1, .int .i64 r.2.1], .int .i64 r.2.2]) ∧ Up w w' from by
    obtain ⟨kd, bi, fr, ro, ov⟩ := t
    obtain rfl : kd = 2 := h2
    obtain ⟨g1, g2, g3, g4⟩ := typB_fix (htb.trans h)
    exact r04_fix bi fr ro ov op n p g1 g2 g3 g4 hp r hr w))
  have HWH := Lib.hid (fun r hr w => r04_whole op n p hp r hr w)
  have HCM := Lib.hid (fun r hr w => r04_Compare t n d p q hn hp r hr w)
  have HAD := Lib.hid (fun r hr w => r01_Add n d p q hn hp r hr w)
  have HSU := Lib.hid (fun r hr w => r01_Sub n d p q hn hp r hr w)
  have HMU := Lib.hid (fun r hr w => r01_Mul n d p q hn hp r hr w)
  have HDI := Lib.hid (fun r hr w => r01_Div n d p q hn hp r hr w)
  have HNE := Lib.hid (fun r hr w => r01_Neg n d hn r hr w)
  unfold applF at hr
  rw [htb, hva, hvb] at hr
  have HR0 := Lib.hid hr
  clear hr htb hva hvb hn hp
  obtain ⟨cm, hcm⟩ : ∃ c, cmp4 t n d p q = c := ⟨_, rfl⟩
  have HC4 := Lib.hid hcm
  clear hcm
  obtain ⟨core, hcore⟩ : ∃ c, coreF op t n d p q = c := ⟨_, rfl⟩
  have HCO := Lib.hid hcore
  have HR := Lib.hid (hcore ▸ HR0.out)
  clear hcore HR0
  obtain ⟨kd, bi, fr, ro, ov⟩ := t
  dsimp only [typV] at HT HVA HVB HFX HCM ⊢
  have HU : Hid (Up w ((((w.alloc (.cells #[.int .i64 kd, .int .i64 bi, .int .i64 fr, .int .i64 ro, .int .i64 ov] 62)).alloc (.cells #[.int .i64 n, .int .i64 d] 60)).alloc (.cells #[.int .i64 p, .int .i64 q] 60)).alloc (.cells #[.int .i64 0, .int .i64 0] 60))) := Lib.hid (((((Up.refl w).alloc _).alloc _).alloc _).alloc _)
  have B0 : Hid (BoxC ((((w.alloc (.cells #[.int .i64 kd, .int .i64 bi, .int .i64 fr, .int .i64 ro, .int .i64 ov] 62)).alloc (.cells #[.int .i64 n, .int .i64 d] 60)).alloc (.cells #[.int .i64 p, .int .i64 q] 60)).alloc (.cells #[.int .i64 0, .int .i64 0] 60)) w.heap.size 62 #[.int .i64 kd, .int .i64 bi, .int .i64 fr, .int .i64 ro, .int .i64 ov]) := Lib.hid ((BoxC.new w _ _).up ((((Up.refl _).alloc _).alloc _).alloc _))
  have B1 : Hid (BoxC ((((w.alloc (.cells #[.int .i64 kd, .int .i64 bi, .int .i64 fr, .int .i64 ro, .int .i64 ov] 62)).alloc (.cells #[.int .i64 n, .int .i64 d] 60)).alloc (.cells #[.int .i64 p, .int .i64 q] 60)).alloc (.cells #[.int .i64 0, .int .i64 0] 60)) (w.heap.size + 1) 60 #[.int .i64 n, .int .i64 d]) := Lib.hid ((BoxC.new2 w _ _ _).up (((Up.refl _).alloc _).alloc _))
  have B2 : Hid (BoxC ((((w.alloc (.cells #[.int .i64 kd, .int .i64 bi, .int .i64 fr, .int .i64 ro, .int .i64 ov] 62)).alloc (.cells #[.int .i64 n, .int .i64 d] 60)).alloc (.cells #[.int .i64 p, .int .i64 q] 60)).alloc (.cells #[.int .i64 0, .int .i64 0] 60)) (w.heap.size + 2) 60 #[.int .i64 p, .int .i64 q]) := Lib.hid ((BoxC.new3 w _ _ _ _).up ((Up.refl _).alloc _))
  have B3 : Hid (BoxC ((((w.alloc (.cells #[.int .i64 kd, .int .i64 bi, .int .i64 fr, .int .i64 ro, .int .i64 ov] 62)).alloc (.cells #[.int .i64 n, .int .i64 d] 60)).alloc (.cells #[.int .i64 p, .int .i64 q] 60)).alloc (.cells #[.int .i64 0, .int .i64 0] 60)) (w.heap.size + 3) 60 #[.int .i64 0, .int .i64 0]) := Lib.hid (BoxC.new4 w _ _ _ _ _)
  by_cases hop : op < 4 ∨ 10 < op
  · obtain rfl : r = (0, 0, 1) := by have := HR.out; rw [if_pos hop] at this; exact this.symm
    rcases hop with hop | hop
    · clear HR
      go_enter Tryd.func65, Tryd.ntmps65
      go_wp2
      all_goals
        refine bodyPost_ret (v := .tuple #[.agg #[.int .i64 0, .int .i64 0], .int .i64 1]) (by simp [results, Tryd.results65, go_sem, *]) rfl ?_
        first | exact ⟨rfl, (HU.out.setCell (p := ⟨w.heap.size + 3, 0, none⟩) (by show w.heap.size ≤ w.heap.size + 3; omega) _).setCell (p := ⟨w.heap.size + 3, 1, none⟩) (by show w.heap.size ≤ w.heap.size + 3; omega) _⟩ | exact ⟨rfl, ((((Up.refl w).alloc _).alloc _).alloc _).alloc _⟩
    · have hop2 : ¬ op < 4 := by omega
      clear HR
      go_enter Tryd.func65, Tryd.ntmps65
      go_wp2
      all_goals
        refine bodyPost_ret (v := .tuple #[.agg #[.int .i64 0, .int .i64 0], .int .i64 1]) (by simp [results, Tryd.results65, go_sem, *]) rfl ?_
        first | exact ⟨rfl, (HU.out.setCell (p := ⟨w.heap.size + 3, 0, none⟩) (by show w.heap.size ≤ w.heap.size + 3; omega) _).setCell (p := ⟨w.heap.size + 3, 1, none⟩) (by show w.heap.size ≤ w.heap.size + 3; omega) _⟩ | exact ⟨rfl, ((((Up.refl w).alloc _).alloc _).alloc _).alloc _⟩
  have hop1 : 4 ≤ op := by omega
  have hop2 : op ≤ 10 := by omega
  cases tb
  · obtain rfl : r = (0, 0, 10) := by have := HR.out; rw [if_neg hop, if_pos rfl] at this; exact this.symm
    clear HR hop
    go_enter Tryd.func65, Tryd.ntmps65
    go_wp2_with (first | (go_at_call 34; refine (HT.out _).mono ?_; rintro e x ⟨rfl, hx⟩; replace HU := Lib.hid (HU.out.trans hx); replace B0 := Lib.hid (B0.out.up hx); replace B1 := Lib.hid (B1.out.up hx); replace B2 := Lib.hid (B2.out.up hx); replace B3 := Lib.hid (B3.out.up hx); clear hx; obtain ⟨t0, t1, t2, t3, t4⟩ := B0.out.five; obtain ⟨a0, a1⟩ := B1.out.two; obtain ⟨b0, b1⟩ := B2.out.two; obtain ⟨z0, z1⟩ := B3.out.two; have zf := B3.out.frozen))
    all_goals
      refine bodyPost_ret (v := .tuple #[.agg #[.int .i64 0, .int .i64 0], .int .i64 10]) (by simp [results, Tryd.results65, go_sem, *]) rfl ?_
      first | exact ⟨rfl, (HU.out.setCell (p := ⟨w.heap.size + 3, 0, none⟩) (by show w.heap.size ≤ w.heap.size + 3; omega) _).setCell (p := ⟨w.heap.size + 3, 1, none⟩) (by show w.heap.size ≤ w.heap.size + 3; omega) _⟩ | exact ⟨rfl, ((((Up.refl w).alloc _).alloc _).alloc _).alloc _⟩
  have HA := Lib.hid (HVA.out rfl)
  have HB := Lib.hid (HVB.out rfl)
  cases va
  · obtain rfl : r = (0, 0, 1) := by have := HR.out; rw [if_neg hop, if_neg (by decide), if_pos (.inl rfl)] at this; exact this.symm
    clear HR hop
    go_enter Tryd.func65, Tryd.ntmps65
    go_wp2_with (first | (go_at_call 34; refine (HT.out _).mono ?_; rintro e x ⟨rfl, hx⟩; replace HU := Lib.hid (HU.out.trans hx); replace B0 := Lib.hid (B0.out.up hx); replace B1 := Lib.hid (B1.out.up hx); replace B2 := Lib.hid (B2.out.up hx); replace B3 := Lib.hid (B3.out.up hx); clear hx; obtain ⟨t0, t1, t2, t3, t4⟩ := B0.out.five; obtain ⟨a0, a1⟩ := B1.out.two; obtain ⟨b0, b1⟩ := B2.out.two; obtain ⟨z0, z1⟩ := B3.out.two; have zf := B3.out.frozen) | (go_at_call 60; (first | (with_reducible refine (HA.out _).mono ?_) | (with_reducible refine (HB.out _).mono ?_)); rintro e x ⟨rfl, hx⟩; replace HU := Lib.hid (HU.out.trans hx); replace B0 := Lib.hid (B0.out.up hx); replace B1 := Lib.hid (B1.out.up hx); replace B2 := Lib.hid (B2.out.up hx); replace B3 := Lib.hid (B3.out.up hx); clear hx; obtain ⟨t0, t1, t2, t3, t4⟩ := B0.out.five; obtain ⟨a0, a1⟩ := B1.out.two; obtain ⟨b0, b1⟩ := B2.out.two; obtain ⟨z0, z1⟩ := B3.out.two; have zf := B3.out.frozen))
    all_goals
      refine bodyPost_ret (v := .tuple #[.agg #[.int .i64 0, .int .i64 0], .int .i64 1]) (by simp [results, Tryd.results65, go_sem, *]) rfl ?_
      first | exact ⟨rfl, (HU.out.setCell (p := ⟨w.heap.size + 3, 0, none⟩) (by show w.heap.size ≤ w.heap.size + 3; omega) _).setCell (p := ⟨w.heap.size + 3, 1, none⟩) (by show w.heap.size ≤ w.heap.size + 3; omega) _⟩ | exact ⟨rfl, ((((Up.refl w).alloc _).alloc _).alloc _).alloc _⟩
  have HTR : Hid (true = true) := Lib.hid rfl
  by_cases h8 : op = 8
  · subst h8
    have HR2 : Hid (core = r) := Lib.hid (by have := HR.out; rw [if_neg hop, if_neg (by decide), if_neg (by simp)] at this; exact this)
    clear HR hop
    
    have h9 : ¬ (8 : Int) = 9 := by decide
    have h10 : ¬ (8 : Int) = 10 := by decide
    by_cases hk2 : kd = 2
    · subst hk2
      have HX := Lib.hid (HFX.out rfl rfl r (by
        have h1 := HCO.out
        unfold coreF at h1
        rw [if_neg (by omega), if_pos rfl] at h1
        exact h1.trans HR2.out))
      go_enter Tryd.func65, Tryd.ntmps65
      go_wp2_with (first | (go_at_call 34; refine (HT.out _).mono ?_; rintro e x ⟨rfl, hx⟩; replace HU := Lib.hid (HU.out.trans hx); replace B0 := Lib.hid (B0.out.up hx); replace B1 := Lib.hid (B1.out.up hx); replace B2 := Lib.hid (B2.out.up hx); replace B3 := Lib.hid (B3.out.up hx); clear hx; obtain ⟨t0, t1, t2, t3, t4⟩ := B0.out.five; obtain ⟨a0, a1⟩ := B1.out.two; obtain ⟨b0, b1⟩ := B2.out.two; obtain ⟨z0, z1⟩ := B3.out.two; have zf := B3.out.frozen) | (go_at_call 60; (first | (with_reducible refine (HA.out _).mono ?_) | (with_reducible refine (HB.out _).mono ?_)); rintro e x ⟨rfl, hx⟩; replace HU := Lib.hid (HU.out.trans hx); replace B0 := Lib.hid (B0.out.up hx); replace B1 := Lib.hid (B1.out.up hx); replace B2 := Lib.hid (B2.out.up hx); replace B3 := Lib.hid (B3.out.up hx); clear hx; obtain ⟨t0, t1, t2, t3, t4⟩ := B0.out.five; obtain ⟨a0, a1⟩ := B1.out.two; obtain ⟨b0, b1⟩ := B2.out.two; obtain ⟨z0, z1⟩ := B3.out.two; have zf := B3.out.frozen) | (go_at_call 74; refine (HX.out _).mono ?_; rintro e x ⟨rfl, hx⟩; replace HU := Lib.hid (HU.out.trans hx); replace B0 := Lib.hid (B0.out.up hx); replace B1 := Lib.hid (B1.out.up hx); replace B2 := Lib.hid (B2.out.up hx); replace B3 := Lib.hid (B3.out.up hx); clear hx; obtain ⟨t0, t1, t2, t3, t4⟩ := B0.out.five; obtain ⟨a0, a1⟩ := B1.out.two; obtain ⟨b0, b1⟩ := B2.out.two; obtain ⟨z0, z1⟩ := B3.out.two; have zf := B3.out.frozen))
      all_goals
        refine bodyPost_ret (v := .tuple #[.agg #[.int .i64 r.1, .int .i64 r.2.1], .int .i64 r.2.2]) (by simp [results, Tryd.results65, go_sem, *]) rfl ?_
        first | exact ⟨rfl, (HU.out.setCell (p := ⟨w.heap.size + 3, 0, none⟩) (by show w.heap.size ≤ w.heap.size + 3; omega) _).setCell (p := ⟨w.heap.size + 3, 1, none⟩) (by show w.heap.size ≤ w.heap.size + 3; omega) _⟩ | exact ⟨rfl, ((((Up.refl w).alloc _).alloc _).alloc _).alloc _⟩
    have hk2b : (kd == 2) = false := by simpa using hk2
    by_cases hk3 : kd = 3
    · subst hk3
      have HX := Lib.hid (HWH.out r (by
        have h1 := HCO.out
        unfold coreF at h1
        rw [if_neg (by omega), if_neg (show ¬ (3 : Int) = 2 by decide), if_pos rfl] at h1
        exact h1.trans HR2.out))
      go_enter Tryd.func65, Tryd.ntmps65
      go_wp2_with (first | (go_at_call 34; refine (HT.out _).mono ?_; rintro e x ⟨rfl, hx⟩; replace HU := Lib.hid (HU.out.trans hx); replace B0 := Lib.hid (B0.out.up hx); replace B1 := Lib.hid (B1.out.up hx); replace B2 := Lib.hid (B2.out.up hx); replace B3 := Lib.hid (B3.out.up hx); clear hx; obtain ⟨t0, t1, t2, t3, t4⟩ := B0.out.five; obtain ⟨a0, a1⟩ := B1.out.two; obtain ⟨b0, b1⟩ := B2.out.two; obtain ⟨z0, z1⟩ := B3.out.two; have zf := B3.out.frozen) | (go_at_call 60; (first | (with_reducible refine (HA.out _).mono ?_) | (with_reducible refine (HB.out _).mono ?_)); rintro e x ⟨rfl, hx⟩; replace HU := Lib.hid (HU.out.trans hx); replace B0 := Lib.hid (B0.out.up hx); replace B1 := Lib.hid (B1.out.up hx); replace B2 := Lib.hid (B2.out.up hx); replace B3 := Lib.hid (B3.out.up hx); clear hx; obtain ⟨t0, t1, t2, t3, t4⟩ := B0.out.five; obtain ⟨a0, a1⟩ := B1.out.two; obtain ⟨b0, b1⟩ := B2.out.two; obtain ⟨z0, z1⟩ := B3.out.two; have zf := B3.out.frozen) | (go_at_call 75; refine (HX.out _).mono ?_; rintro e x ⟨rfl, hx⟩; replace HU := Lib.hid (HU.out.trans hx); replace B0 := Lib.hid (B0.out.up hx); replace B1 := Lib.hid (B1.out.up hx); replace B2 := Lib.hid (B2.out.up hx); replace B3 := Lib.hid (B3.out.up hx); clear hx; obtain ⟨t0, t1, t2, t3, t4⟩ := B0.out.five; obtain ⟨a0, a1⟩ := B1.out.two; obtain ⟨b0, b1⟩ := B2.out.two; obtain ⟨z0, z1⟩ := B3.out.two; have zf := B3.out.frozen))
      all_goals
        refine bodyPost_ret (v := .tuple #[.agg #[.int .i64 r.1, .int .i64 r.2.1], .int .i64 r.2.2]) (by simp [results, Tryd.results65, go_sem, *]) rfl ?_
        first | exact ⟨rfl, (HU.out.setCell (p := ⟨w.heap.size + 3, 0, none⟩) (by show w.heap.size ≤ w.heap.size + 3; omega) _).setCell (p := ⟨w.heap.size + 3, 1, none⟩) (by show w.heap.size ≤ w.heap.size + 3; omega) _⟩ | exact ⟨rfl, ((((Up.refl w).alloc _).alloc _).alloc _).alloc _⟩
    have hk3b : (kd == 3) = false := by simpa using hk3
    have HCF : Hid ((if (8 : Int) = 4 then addF n d p q else if (8 : Int) = 5 then subF n d p q else if (8 : Int) = 6 then mulF n d p q else if (8 : Int) = 7 then divF n d p q else ((negF n d).1, (negF n d).2, 0)) = r) := Lib.hid (by
      have h1 := HCO.out
      unfold coreF at h1
      rw [if_neg (by omega), if_neg hk2, if_neg hk3] at h1
      exact h1.trans HR2.out)
    obtain ⟨⟨g1, g2⟩, hg⟩ : ∃ g, negF n d = g := ⟨_, rfl⟩
    have HX := Lib.hid (HNE.out (g1, g2) hg)
    obtain rfl : r = (g1, g2, 0) := by have := HCF.out; rw [if_neg (by decide), if_neg (by decide), if_neg (by decide), if_neg (by decide), hg] at this; exact this.symm
    clear hg
    go_enter Tryd.func65, Tryd.ntmps65
    go_wp2_with (first | (go_at_call 34; refine (HT.out _).mono ?_; rintro e x ⟨rfl, hx⟩; replace HU := Lib.hid (HU.out.trans hx); replace B0 := Lib.hid (B0.out.up hx); replace B1 := Lib.hid (B1.out.up hx); replace B2 := Lib.hid (B2.out.up hx); replace B3 := Lib.hid (B3.out.up hx); clear hx; obtain ⟨t0, t1, t2, t3, t4⟩ := B0.out.five; obtain ⟨a0, a1⟩ := B1.out.two; obtain ⟨b0, b1⟩ := B2.out.two; obtain ⟨z0, z1⟩ := B3.out.two; have zf := B3.out.frozen) | (go_at_call 60; (first | (with_reducible refine (HA.out _).mono ?_) | (with_reducible refine (HB.out _).mono ?_)); rintro e x ⟨rfl, hx⟩; replace HU := Lib.hid (HU.out.trans hx); replace B0 := Lib.hid (B0.out.up hx); replace B1 := Lib.hid (B1.out.up hx); replace B2 := Lib.hid (B2.out.up hx); replace B3 := Lib.hid (B3.out.up hx); clear hx; obtain ⟨t0, t1, t2, t3, t4⟩ := B0.out.five; obtain ⟨a0, a1⟩ := B1.out.two; obtain ⟨b0, b1⟩ := B2.out.two; obtain ⟨z0, z1⟩ := B3.out.two; have zf := B3.out.frozen) | (go_at_call 80; refine (HX.out _).mono ?_; rintro e x ⟨rfl, hx⟩; replace HU := Lib.hid (HU.out.trans hx); replace B0 := Lib.hid (B0.out.up hx); replace B1 := Lib.hid (B1.out.up hx); replace B2 := Lib.hid (B2.out.up hx); replace B3 := Lib.hid (B3.out.up hx); clear hx; obtain ⟨t0, t1, t2, t3, t4⟩ := B0.out.five; obtain ⟨a0, a1⟩ := B1.out.two; obtain ⟨b0, b1⟩ := B2.out.two; obtain ⟨z0, z1⟩ := B3.out.two; have zf := B3.out.frozen))
    all_goals
      refine bodyPost_ret (v := .tuple #[.agg #[.int .i64 g1, .int .i64 g2], .int .i64 0]) (by simp [results, Tryd.results65, go_sem, *]) rfl ?_
      first | exact ⟨rfl, (HU.out.setCell (p := ⟨w.heap.size + 3, 0, none⟩) (by show w.heap.size ≤ w.heap.size + 3; omega) _).setCell (p := ⟨w.heap.size + 3, 1, none⟩) (by show w.heap.size ≤ w.heap.size + 3; omega) _⟩ | exact ⟨rfl, ((((Up.refl w).alloc _).alloc _).alloc _).alloc _⟩
  have h8b : (op == 8) = false := by simpa using h8
  have h8c : (op != 8) = true := by simpa using h8
  cases vb
  · obtain rfl : r = (0, 0, 1) := by have := HR.out; rw [if_neg hop, if_neg (by decide), if_pos (.inr ⟨h8, rfl⟩)] at this; exact this.symm
    clear HR hop
    go_enter Tryd.func65, Tryd.ntmps65
    go_wp2_with (first | (go_at_call 34; refine (HT.out _).mono ?_; rintro e x ⟨rfl, hx⟩; replace HU := Lib.hid (HU.out.trans hx); replace B0 := Lib.hid (B0.out.up hx); replace B1 := Lib.hid (B1.out.up hx); replace B2 := Lib.hid (B2.out.up hx); replace B3 := Lib.hid (B3.out.up hx); clear hx; obtain ⟨t0, t1, t2, t3, t4⟩ := B0.out.five; obtain ⟨a0, a1⟩ := B1.out.two; obtain ⟨b0, b1⟩ := B2.out.two; obtain ⟨z0, z1⟩ := B3.out.two; have zf := B3.out.frozen) | (go_at_call 60; (first | (with_reducible refine (HA.out _).mono ?_) | (with_reducible refine (HB.out _).mono ?_)); rintro e x ⟨rfl, hx⟩; replace HU := Lib.hid (HU.out.trans hx); replace B0 := Lib.hid (B0.out.up hx); replace B1 := Lib.hid (B1.out.up hx); replace B2 := Lib.hid (B2.out.up hx); replace B3 := Lib.hid (B3.out.up hx); clear hx; obtain ⟨t0, t1, t2, t3, t4⟩ := B0.out.five; obtain ⟨a0, a1⟩ := B1.out.two; obtain ⟨b0, b1⟩ := B2.out.two; obtain ⟨z0, z1⟩ := B3.out.two; have zf := B3.out.frozen))
    all_goals
      refine bodyPost_ret (v := .tuple #[.agg #[.int .i64 0, .int .i64 0], .int .i64 1]) (by simp [results, Tryd.results65, go_sem, *]) rfl ?_
      first | exact ⟨rfl, (HU.out.setCell (p := ⟨w.heap.size + 3, 0, none⟩) (by show w.heap.size ≤ w.heap.size + 3; omega) _).setCell (p := ⟨w.heap.size + 3, 1, none⟩) (by show w.heap.size ≤ w.heap.size + 3; omega) _⟩ | exact ⟨rfl, ((((Up.refl w).alloc _).alloc _).alloc _).alloc _⟩
  have HR2 : Hid (core = r) := Lib.hid (by have := HR.out; rw [if_neg hop, if_neg (by decide), if_neg (by simp)] at this; exact this)
  clear HR hop
  by_cases h9 : op = 9
  · subst h9
    have HCM9 := Lib.hid (HCM.out cm HC4.out)
    have HX : Hid ((if decide (0 < cm) = decide ((9 : Int) = 9) then (p, q, 0) else (n, d, 0)) = r) := Lib.hid (by
      have h1 := HCO.out
      unfold coreF minmaxF at h1
      rw [if_pos (.inl rfl), HC4.out] at h1
      rw [h1]; exact HR2.out)
    by_cases hc : 0 < cm
    · obtain rfl : r = (p, q, 0) := by have := HX.out; simp [hc] at this; exact this.symm
      go_enter Tryd.func65, Tryd.ntmps65
      go_wp2_with (first | (go_at_call 34; refine (HT.out _).mono ?_; rintro e x ⟨rfl, hx⟩; replace HU := Lib.hid (HU.out.trans hx); replace B0 := Lib.hid (B0.out.up hx); replace B1 := Lib.hid (B1.out.up hx); replace B2 := Lib.hid (B2.out.up hx); replace B3 := Lib.hid (B3.out.up hx); clear hx; obtain ⟨t0, t1, t2, t3, t4⟩ := B0.out.five; obtain ⟨a0, a1⟩ := B1.out.two; obtain ⟨b0, b1⟩ := B2.out.two; obtain ⟨z0, z1⟩ := B3.out.two; have zf := B3.out.frozen) | (go_at_call 60; (first | (with_reducible refine (HA.out _).mono ?_) | (with_reducible refine (HB.out _).mono ?_)); rintro e x ⟨rfl, hx⟩; replace HU := Lib.hid (HU.out.trans hx); replace B0 := Lib.hid (B0.out.up hx); replace B1 := Lib.hid (B1.out.up hx); replace B2 := Lib.hid (B2.out.up hx); replace B3 := Lib.hid (B3.out.up hx); clear hx; obtain ⟨t0, t1, t2, t3, t4⟩ := B0.out.five; obtain ⟨a0, a1⟩ := B1.out.two; obtain ⟨b0, b1⟩ := B2.out.two; obtain ⟨z0, z1⟩ := B3.out.two; have zf := B3.out.frozen) | (go_at_call 63; refine (HCM9.out _).mono ?_; rintro e x ⟨rfl, hx⟩; replace HU := Lib.hid (HU.out.trans hx); replace B0 := Lib.hid (B0.out.up hx); replace B1 := Lib.hid (B1.out.up hx); replace B2 := Lib.hid (B2.out.up hx); replace B3 := Lib.hid (B3.out.up hx); clear hx; obtain ⟨t0, t1, t2, t3, t4⟩ := B0.out.five; obtain ⟨a0, a1⟩ := B1.out.two; obtain ⟨b0, b1⟩ := B2.out.two; obtain ⟨z0, z1⟩ := B3.out.two; have zf := B3.out.frozen))
      all_goals
        refine bodyPost_ret (v := .tuple #[.agg #[.int .i64 p, .int .i64 q], .int .i64 0]) (by simp [results, Tryd.results65, go_sem, *]) rfl ?_
        first | exact ⟨rfl, (HU.out.setCell (p := ⟨w.heap.size + 3, 0, none⟩) (by show w.heap.size ≤ w.heap.size + 3; omega) _).setCell (p := ⟨w.heap.size + 3, 1, none⟩) (by show w.heap.size ≤ w.heap.size + 3; omega) _⟩ | exact ⟨rfl, ((((Up.refl w).alloc _).alloc _).alloc _).alloc _⟩
    · obtain rfl : r = (n, d, 0) := by have := HX.out; simp [hc] at this; exact this.symm
      have hc2 : cm ≤ 0 := by omega
      have hc3 : decide (0 < cm) = false := by simp; omega
      clear hc
      go_enter Tryd.func65, Tryd.ntmps65
      go_wp2_with (first | (go_at_call 34; refine (HT.out _).mono ?_; rintro e x ⟨rfl, hx⟩; replace HU := Lib.hid (HU.out.trans hx); replace B0 := Lib.hid (B0.out.up hx); replace B1 := Lib.hid (B1.out.up hx); replace B2 := Lib.hid (B2.out.up hx); replace B3 := Lib.hid (B3.out.up hx); clear hx; obtain ⟨t0, t1, t2, t3, t4⟩ := B0.out.five; obtain ⟨a0, a1⟩ := B1.out.two; obtain ⟨b0, b1⟩ := B2.out.two; obtain ⟨z0, z1⟩ := B3.out.two; have zf := B3.out.frozen) | (go_at_call 60; (first | (with_reducible refine (HA.out _).mono ?_) | (with_reducible refine (HB.out _).mono ?_)); rintro e x ⟨rfl, hx⟩; replace HU := Lib.hid (HU.out.trans hx); replace B0 := Lib.hid (B0.out.up hx); replace B1 := Lib.hid (B1.out.up hx); replace B2 := Lib.hid (B2.out.up hx); replace B3 := Lib.hid (B3.out.up hx); clear hx; obtain ⟨t0, t1, t2, t3, t4⟩ := B0.out.five; obtain ⟨a0, a1⟩ := B1.out.two; obtain ⟨b0, b1⟩ := B2.out.two; obtain ⟨z0, z1⟩ := B3.out.two; have zf := B3.out.frozen) | (go_at_call 63; refine (HCM9.out _).mono ?_; rintro e x ⟨rfl, hx⟩; replace HU := Lib.hid (HU.out.trans hx); replace B0 := Lib.hid (B0.out.up hx); replace B1 := Lib.hid (B1.out.up hx); replace B2 := Lib.hid (B2.out.up hx); replace B3 := Lib.hid (B3.out.up hx); clear hx; obtain ⟨t0, t1, t2, t3, t4⟩ := B0.out.five; obtain ⟨a0, a1⟩ := B1.out.two; obtain ⟨b0, b1⟩ := B2.out.two; obtain ⟨z0, z1⟩ := B3.out.two; have zf := B3.out.frozen))
      all_goals
        refine bodyPost_ret (v := .tuple #[.agg #[.int .i64 n, .int .i64 d], .int .i64 0]) (by simp [results, Tryd.results65, go_sem, *]) rfl ?_
        first | exact ⟨rfl, (HU.out.setCell (p := ⟨w.heap.size + 3, 0, none⟩) (by show w.heap.size ≤ w.heap.size + 3; omega) _).setCell (p := ⟨w.heap.size + 3, 1, none⟩) (by show w.heap.size ≤ w.heap.size + 3; omega) _⟩ | exact ⟨rfl, ((((Up.refl w).alloc _).alloc _).alloc _).alloc _⟩
  by_cases h10 : op = 10
  · subst h10
    have HCM9 := Lib.hid (HCM.out cm HC4.out)
    have HX : Hid ((if decide (0 < cm) = decide ((10 : Int) = 9) then (p, q, 0) else (n, d, 0)) = r) := Lib.hid (by
      have h1 := HCO.out
      unfold coreF minmaxF at h1
      rw [if_pos (.inr rfl), HC4.out] at h1
      rw [h1]; exact HR2.out)
    by_cases hc : 0 < cm
    · obtain rfl : r = (n, d, 0) := by have := HX.out; simp [hc] at this; exact this.symm
      go_enter Tryd.func65, Tryd.ntmps65
      go_wp2_with (first | (go_at_call 34; refine (HT.out _).mono ?_; rintro e x ⟨rfl, hx⟩; replace HU := Lib.hid (HU.out.trans hx); replace B0 := Lib.hid (B0.out.up hx); replace B1 := Lib.hid (B1.out.up hx); replace B2 := Lib.hid (B2.out.up hx); replace B3 := Lib.hid (B3.out.up hx); clear hx; obtain ⟨t0, t1, t2, t3, t4⟩ := B0.out.five; obtain ⟨a0, a1⟩ := B1.out.two; obtain ⟨b0, b1⟩ := B2.out.two; obtain ⟨z0, z1⟩ := B3.out.two; have zf := B3.out.frozen) | (go_at_call 60; (first | (with_reducible refine (HA.out _).mono ?_) | (with_reducible refine (HB.out _).mono ?_)); rintro e x ⟨rfl, hx⟩; replace HU := Lib.hid (HU.out.trans hx); replace B0 := Lib.hid (B0.out.up hx); replace B1 := Lib.hid (B1.out.up hx); replace B2 := Lib.hid (B2.out.up hx); replace B3 := Lib.hid (B3.out.up hx); clear hx; obtain ⟨t0, t1, t2, t3, t4⟩ := B0.out.five; obtain ⟨a0, a1⟩ := B1.out.two; obtain ⟨b0, b1⟩ := B2.out.two; obtain ⟨z0, z1⟩ := B3.out.two; have zf := B3.out.frozen) | (go_at_call 63; refine (HCM9.out _).mono ?_; rintro e x ⟨rfl, hx⟩; replace HU := Lib.hid (HU.out.trans hx); replace B0 := Lib.hid (B0.out.up hx); replace B1 := Lib.hid (B1.out.up hx); replace B2 := Lib.hid (B2.out.up hx); replace B3 := Lib.hid (B3.out.up hx); clear hx; obtain ⟨t0, t1, t2, t3, t4⟩ := B0.out.five; obtain ⟨a0, a1⟩ := B1.out.two; obtain ⟨b0, b1⟩ := B2.out.two; obtain ⟨z0, z1⟩ := B3.out.two; have zf := B3.out.frozen))
      all_goals
        refine bodyPost_ret (v := .tuple #[.agg #[.int .i64 n, .int .i64 d], .int .i64 0]) (by simp [results, Tryd.results65, go_sem, *]) rfl ?_
        first | exact ⟨rfl, (HU.out.setCell (p := ⟨w.heap.size + 3, 0, none⟩) (by show w.heap.size ≤ w.heap.size + 3; omega) _).setCell (p := ⟨w.heap.size + 3, 1, none⟩) (by show w.heap.size ≤ w.heap.size + 3; omega) _⟩ | exact ⟨rfl, ((((Up.refl w).alloc _).alloc _).alloc _).alloc _⟩
    · obtain rfl : r = (p, q, 0) := by have := HX.out; simp [hc] at this; exact this.symm
      have hc2 : cm ≤ 0 := by omega
      have hc3 : decide (0 < cm) = false := by simp; omega
      clear hc
      go_enter Tryd.func65, Tryd.ntmps65
      go_wp2_with (first | (go_at_call 34; refine (HT.out _).mono ?_; rintro e x ⟨rfl, hx⟩; replace HU := Lib.hid (HU.out.trans hx); replace B0 := Lib.hid (B0.out.up hx); replace B1 := Lib.hid (B1.out.up hx); replace B2 := Lib.hid (B2.out.up hx); replace B3 := Lib.hid (B3.out.up hx); clear hx; obtain ⟨t0, t1, t2, t3, t4⟩ := B0.out.five; obtain ⟨a0, a1⟩ := B1.out.two; obtain ⟨b0, b1⟩ := B2.out.two; obtain ⟨z0, z1⟩ := B3.out.two; have zf := B3.out.frozen) | (go_at_call 60; (first | (with_reducible refine (HA.out _).mono ?_) | (with_reducible refine (HB.out _).mono ?_)); rintro e x ⟨rfl, hx⟩; replace HU := Lib.hid (HU.out.trans hx); replace B0 := Lib.hid (B0.out.up hx); replace B1 := Lib.hid (B1.out.up hx); replace B2 := Lib.hid (B2.out.up hx); replace B3 := Lib.hid (B3.out.up hx); clear hx; obtain ⟨t0, t1, t2, t3, t4⟩ := B0.out.five; obtain ⟨a0, a1⟩ := B1.out.two; obtain ⟨b0, b1⟩ := B2.out.two; obtain ⟨z0, z1⟩ := B3.out.two; have zf := B3.out.frozen) | (go_at_call 63; refine (HCM9.out _).mono ?_; rintro e x ⟨rfl, hx⟩; replace HU := Lib.hid (HU.out.trans hx); replace B0 := Lib.hid (B0.out.up hx); replace B1 := Lib.hid (B1.out.up hx); replace B2 := Lib.hid (B2.out.up hx); replace B3 := Lib.hid (B3.out.up hx); clear hx; obtain ⟨t0, t1, t2, t3, t4⟩ := B0.out.five; obtain ⟨a0, a1⟩ := B1.out.two; obtain ⟨b0, b1⟩ := B2.out.two; obtain ⟨z0, z1⟩ := B3.out.two; have zf := B3.out.frozen))
      all_goals
        refine bodyPost_ret (v := .tuple #[.agg #[.int .i64 p, .int .i64 q], .int .i64 0]) (by simp [results, Tryd.results65, go_sem, *]) rfl ?_
        first | exact ⟨rfl, (HU.out.setCell (p := ⟨w.heap.size + 3, 0, none⟩) (by show w.heap.size ≤ w.heap.size + 3; omega) _).setCell (p := ⟨w.heap.size + 3, 1, none⟩) (by show w.heap.size ≤ w.heap.size + 3; omega) _⟩ | exact ⟨rfl, ((((Up.refl w).alloc _).alloc _).alloc _).alloc _⟩
  have h9b : (op == 9) = false := by simpa using h9
  have h10b : (op == 10) = false := by simpa using h10
  by_cases hk2 : kd = 2
  · subst hk2
    have HX := Lib.hid (HFX.out rfl rfl r (by
      have h1 := HCO.out
      unfold coreF at h1
      rw [if_neg (by omega), if_pos rfl] at h1
      exact h1.trans HR2.out))
    go_enter Tryd.func65, Tryd.ntmps65
    go_wp2_with (first | (go_at_call 34; refine (HT.out _).mono ?_; rintro e x ⟨rfl, hx⟩; replace HU := Lib.hid (HU.out.trans hx); replace B0 := Lib.hid (B0.out.up hx); replace B1 := Lib.hid (B1.out.up hx); replace B2 := Lib.hid (B2.out.up hx); replace B3 := Lib.hid (B3.out.up hx); clear hx; obtain ⟨t0, t1, t2, t3, t4⟩ := B0.out.five; obtain ⟨a0, a1⟩ := B1.out.two; obtain ⟨b0, b1⟩ := B2.out.two; obtain ⟨z0, z1⟩ := B3.out.two; have zf := B3.out.frozen) | (go_at_call 60; (first | (with_reducible refine (HA.out _).mono ?_) | (with_reducible refine (HB.out _).mono ?_)); rintro e x ⟨rfl, hx⟩; replace HU := Lib.hid (HU.out.trans hx); replace B0 := Lib.hid (B0.out.up hx); replace B1 := Lib.hid (B1.out.up hx); replace B2 := Lib.hid (B2.out.up hx); replace B3 := Lib.hid (B3.out.up hx); clear hx; obtain ⟨t0, t1, t2, t3, t4⟩ := B0.out.five; obtain ⟨a0, a1⟩ := B1.out.two; obtain ⟨b0, b1⟩ := B2.out.two; obtain ⟨z0, z1⟩ := B3.out.two; have zf := B3.out.frozen) | (go_at_call 74; refine (HX.out _).mono ?_; rintro e x ⟨rfl, hx⟩; replace HU := Lib.hid (HU.out.trans hx); replace B0 := Lib.hid (B0.out.up hx); replace B1 := Lib.hid (B1.out.up hx); replace B2 := Lib.hid (B2.out.up hx); replace B3 := Lib.hid (B3.out.up hx); clear hx; obtain ⟨t0, t1, t2, t3, t4⟩ := B0.out.five; obtain ⟨a0, a1⟩ := B1.out.two; obtain ⟨b0, b1⟩ := B2.out.two; obtain ⟨z0, z1⟩ := B3.out.two; have zf := B3.out.frozen))
    all_goals
      refine bodyPost_ret (v := .tuple #[.agg #[.int .i64 r.1, .int .i64 r.2.1], .int .i64 r.2.2]) (by simp [results, Tryd.results65, go_sem, *]) rfl ?_
      first | exact ⟨rfl, (HU.out.setCell (p := ⟨w.heap.size + 3, 0, none⟩) (by show w.heap.size ≤ w.heap.size + 3; omega) _).setCell (p := ⟨w.heap.size + 3, 1, none⟩) (by show w.heap.size ≤ w.heap.size + 3; omega) _⟩ | exact ⟨rfl, ((((Up.refl w).alloc _).alloc _).alloc _).alloc _⟩
  have hk2b : (kd == 2) = false := by simpa using hk2
  by_cases hk3 : kd = 3
  · subst hk3
    have HX := Lib.hid (HWH.out r (by
      have h1 := HCO.out
      unfold coreF at h1
      rw [if_neg (by omega), if_neg (show ¬ (3 : Int) = 2 by decide), if_pos rfl] at h1
      exact h1.trans HR2.out))
    go_enter Tryd.func65, Tryd.ntmps65
    go_wp2_with (first | (go_at_call 34; refine (HT.out _).mono ?_; rintro e x ⟨rfl, hx⟩; replace HU := Lib.hid (HU.out.trans hx); replace B0 := Lib.hid (B0.out.up hx); replace B1 := Lib.hid (B1.out.up hx); replace B2 := Lib.hid (B2.out.up hx); replace B3 := Lib.hid (B3.out.up hx); clear hx; obtain ⟨t0, t1, t2, t3, t4⟩ := B0.out.five; obtain ⟨a0, a1⟩ := B1.out.two; obtain ⟨b0, b1⟩ := B2.out.two; obtain ⟨z0, z1⟩ := B3.out.two; have zf := B3.out.frozen) | (go_at_call 60; (first | (with_reducible refine (HA.out _).mono ?_) | (with_reducible refine (HB.out _).mono ?_)); rintro e x ⟨rfl, hx⟩; replace HU := Lib.hid (HU.out.trans hx); replace B0 := Lib.hid (B0.out.up hx); replace B1 := Lib.hid (B1.out.up hx); replace B2 := Lib.hid (B2.out.up hx); replace B3 := Lib.hid (B3.out.up hx); clear hx; obtain ⟨t0, t1, t2, t3, t4⟩ := B0.out.five; obtain ⟨a0, a1⟩ := B1.out.two; obtain ⟨b0, b1⟩ := B2.out.two; obtain ⟨z0, z1⟩ := B3.out.two; have zf := B3.out.frozen) | (go_at_call 75; refine (HX.out _).mono ?_; rintro e x ⟨rfl, hx⟩; replace HU := Lib.hid (HU.out.trans hx); replace B0 := Lib.hid (B0.out.up hx); replace B1 := Lib.hid (B1.out.up hx); replace B2 := Lib.hid (B2.out.up hx); replace B3 := Lib.hid (B3.out.up hx); clear hx; obtain ⟨t0, t1, t2, t3, t4⟩ := B0.out.five; obtain ⟨a0, a1⟩ := B1.out.two; obtain ⟨b0, b1⟩ := B2.out.two; obtain ⟨z0, z1⟩ := B3.out.two; have zf := B3.out.frozen))
    all_goals
      refine bodyPost_ret (v := .tuple #[.agg #[.int .i64 r.1, .int .i64 r.2.1], .int .i64 r.2.2]) (by simp [results, Tryd.results65, go_sem, *]) rfl ?_
      first | exact ⟨rfl, (HU.out.setCell (p := ⟨w.heap.size + 3, 0, none⟩) (by show w.heap.size ≤ w.heap.size + 3; omega) _).setCell (p := ⟨w.heap.size + 3, 1, none⟩) (by show w.heap.size ≤ w.heap.size + 3; omega) _⟩ | exact ⟨rfl, ((((Up.refl w).alloc _).alloc _).alloc _).alloc _⟩
  have hk3b : (kd == 3) = false := by simpa using hk3
  have HCF : Hid ((if op = 4 then addF n d p q else if op = 5 then subF n d p q else if op = 6 then mulF n d p q else if op = 7 then divF n d p q else ((negF n d).1, (negF n d).2, 0)) = r) := Lib.hid (by
    have h1 := HCO.out
    unfold coreF at h1
    rw [if_neg (by omega), if_neg hk2, if_neg hk3] at h1
    exact h1.trans HR2.out)
  by_cases h4 : op = 4
  · subst h4
    have HX := Lib.hid (HAD.out r (by have := HCF.out; rw [if_pos rfl] at this; exact this))
    go_enter Tryd.func65, Tryd.ntmps65
    go_wp2_with (first | (go_at_call 34; refine (HT.out _).mono ?_; rintro e x ⟨rfl, hx⟩; replace HU := Lib.hid (HU.out.trans hx); replace B0 := Lib.hid (B0.out.up hx); replace B1 := Lib.hid (B1.out.up hx); replace B2 := Lib.hid (B2.out.up hx); replace B3 := Lib.hid (B3.out.up hx); clear hx; obtain ⟨t0, t1, t2, t3, t4⟩ := B0.out.five; obtain ⟨a0, a1⟩ := B1.out.two; obtain ⟨b0, b1⟩ := B2.out.two; obtain ⟨z0, z1⟩ := B3.out.two; have zf := B3.out.frozen) | (go_at_call 60; (first | (with_reducible refine (HA.out _).mono ?_) | (with_reducible refine (HB.out _).mono ?_)); rintro e x ⟨rfl, hx⟩; replace HU := Lib.hid (HU.out.trans hx); replace B0 := Lib.hid (B0.out.up hx); replace B1 := Lib.hid (B1.out.up hx); replace B2 := Lib.hid (B2.out.up hx); replace B3 := Lib.hid (B3.out.up hx); clear hx; obtain ⟨t0, t1, t2, t3, t4⟩ := B0.out.five; obtain ⟨a0, a1⟩ := B1.out.two; obtain ⟨b0, b1⟩ := B2.out.two; obtain ⟨z0, z1⟩ := B3.out.two; have zf := B3.out.frozen) | (go_at_call 76; refine (HX.out _).mono ?_; rintro e x ⟨rfl, hx⟩; replace HU := Lib.hid (HU.out.trans hx); replace B0 := Lib.hid (B0.out.up hx); replace B1 := Lib.hid (B1.out.up hx); replace B2 := Lib.hid (B2.out.up hx); replace B3 := Lib.hid (B3.out.up hx); clear hx; obtain ⟨t0, t1, t2, t3, t4⟩ := B0.out.five; obtain ⟨a0, a1⟩ := B1.out.two; obtain ⟨b0, b1⟩ := B2.out.two; obtain ⟨z0, z1⟩ := B3.out.two; have zf := B3.out.frozen))
    all_goals
      refine bodyPost_ret (v := .tuple #[.agg #[.int .i64 r.1, .int .i64 r.2.1], .int .i64 r.2.2]) (by simp [results, Tryd.results65, go_sem, *]) rfl ?_
      first | exact ⟨rfl, (HU.out.setCell (p := ⟨w.heap.size + 3, 0, none⟩) (by show w.heap.size ≤ w.heap.size + 3; omega) _).setCell (p := ⟨w.heap.size + 3, 1, none⟩) (by show w.heap.size ≤ w.heap.size + 3; omega) _⟩ | exact ⟨rfl, ((((Up.refl w).alloc _).alloc _).alloc _).alloc _⟩
  by_cases h5 : op = 5
  · subst h5
    have HX := Lib.hid (HSU.out r (by have := HCF.out; rw [if_neg (show ¬ (5 : Int) = 4 by decide), if_pos rfl] at this; exact this))
    go_enter Tryd.func65, Tryd.ntmps65
    go_wp2_with (first | (go_at_call 34; refine (HT.out _).mono ?_; rintro e x ⟨rfl, hx⟩; replace HU := Lib.hid (HU.out.trans hx); replace B0 := Lib.hid (B0.out.up hx); replace B1 := Lib.hid (B1.out.up hx); replace B2 := Lib.hid (B2.out.up hx); replace B3 := Lib.hid (B3.out.up hx); clear hx; obtain ⟨t0, t1, t2, t3, t4⟩ := B0.out.five; obtain ⟨a0, a1⟩ := B1.out.two; obtain ⟨b0, b1⟩ := B2.out.two; obtain ⟨z0, z1⟩ := B3.out.two; have zf := B3.out.frozen) | (go_at_call 60; (first | (with_reducible refine (HA.out _).mono ?_) | (with_reducible refine (HB.out _).mono ?_)); rintro e x ⟨rfl, hx⟩; replace HU := Lib.hid (HU.out.trans hx); replace B0 := Lib.hid (B0.out.up hx); replace B1 := Lib.hid (B1.out.up hx); replace B2 := Lib.hid (B2.out.up hx); replace B3 := Lib.hid (B3.out.up hx); clear hx; obtain ⟨t0, t1, t2, t3, t4⟩ := B0.out.five; obtain ⟨a0, a1⟩ := B1.out.two; obtain ⟨b0, b1⟩ := B2.out.two; obtain ⟨z0, z1⟩ := B3.out.two; have zf := B3.out.frozen) | (go_at_call 77; refine (HX.out _).mono ?_; rintro e x ⟨rfl, hx⟩; replace HU := Lib.hid (HU.out.trans hx); replace B0 := Lib.hid (B0.out.up hx); replace B1 := Lib.hid (B1.out.up hx); replace B2 := Lib.hid (B2.out.up hx); replace B3 := Lib.hid (B3.out.up hx); clear hx; obtain ⟨t0, t1, t2, t3, t4⟩ := B0.out.five; obtain ⟨a0, a1⟩ := B1.out.two; obtain ⟨b0, b1⟩ := B2.out.two; obtain ⟨z0, z1⟩ := B3.out.two; have zf := B3.out.frozen))
    all_goals
      refine bodyPost_ret (v := .tuple #[.agg #[.int .i64 r.1, .int .i64 r.2.1], .int .i64 r.2.2]) (by simp [results, Tryd.results65, go_sem, *]) rfl ?_
      first | exact ⟨rfl, (HU.out.setCell (p := ⟨w.heap.size + 3, 0, none⟩) (by show w.heap.size ≤ w.heap.size + 3; omega) _).setCell (p := ⟨w.heap.size + 3, 1, none⟩) (by show w.heap.size ≤ w.heap.size + 3; omega) _⟩ | exact ⟨rfl, ((((Up.refl w).alloc _).alloc _).alloc _).alloc _⟩
  by_cases h6 : op = 6
  · subst h6
    have HX := Lib.hid (HMU.out r (by have := HCF.out; rw [if_neg (show ¬ (6 : Int) = 4 by decide), if_neg (show ¬ (6 : Int) = 5 by decide), if_pos rfl] at this; exact this))
    go_enter Tryd.func65, Tryd.ntmps65
    go_wp2_with (first | (go_at_call 34; refine (HT.out _).mono ?_; rintro e x ⟨rfl, hx⟩; replace HU := Lib.hid (HU.out.trans hx); replace B0 := Lib.hid (B0.out.up hx); replace B1 := Lib.hid (B1.out.up hx); replace B2 := Lib.hid (B2.out.up hx); replace B3 := Lib.hid (B3.out.up hx); clear hx; obtain ⟨t0, t1, t2, t3, t4⟩ := B0.out.five; obtain ⟨a0, a1⟩ := B1.out.two; obtain ⟨b0, b1⟩ := B2.out.two; obtain ⟨z0, z1⟩ := B3.out.two; have zf := B3.out.frozen) | (go_at_call 60; (first | (with_reducible refine (HA.out _).mono ?_) | (with_reducible refine (HB.out _).mono ?_)); rintro e x ⟨rfl, hx⟩; replace HU := Lib.hid (HU.out.trans hx); replace B0 := Lib.hid (B0.out.up hx); replace B1 := Lib.hid (B1.out.up hx); replace B2 := Lib.hid (B2.out.up hx); replace B3 := Lib.hid (B3.out.up hx); clear hx; obtain ⟨t0, t1, t2, t3, t4⟩ := B0.out.five; obtain ⟨a0, a1⟩ := B1.out.two; obtain ⟨b0, b1⟩ := B2.out.two; obtain ⟨z0, z1⟩ := B3.out.two; have zf := B3.out.frozen) | (go_at_call 78; refine (HX.out _).mono ?_; rintro e x ⟨rfl, hx⟩; replace HU := Lib.hid (HU.out.trans hx); replace B0 := Lib.hid (B0.out.up hx); replace B1 := Lib.hid (B1.out.up hx); replace B2 := Lib.hid (B2.out.up hx); replace B3 := Lib.hid (B3.out.up hx); clear hx; obtain ⟨t0, t1, t2, t3, t4⟩ := B0.out.five; obtain ⟨a0, a1⟩ := B1.out.two; obtain ⟨b0, b1⟩ := B2.out.two; obtain ⟨z0, z1⟩ := B3.out.two; have zf := B3.out.frozen))
    all_goals
      refine bodyPost_ret (v := .tuple #[.agg #[.int .i64 r.1, .int .i64 r.2.1], .int .i64 r.2.2]) (by simp [results, Tryd.results65, go_sem, *]) rfl ?_
      first | exact ⟨rfl, (HU.out.setCell (p := ⟨w.heap.size + 3, 0, none⟩) (by show w.heap.size ≤ w.heap.size + 3; omega) _).setCell (p := ⟨w.heap.size + 3, 1, none⟩) (by show w.heap.size ≤ w.heap.size + 3; omega) _⟩ | exact ⟨rfl, ((((Up.refl w).alloc _).alloc _).alloc _).alloc _⟩
  by_cases h7 : op = 7
  · subst h7
    have HX := Lib.hid (HDI.out r (by have := HCF.out; rw [if_neg (show ¬ (7 : Int) = 4 by decide), if_neg (show ¬ (7 : Int) = 5 by decide), if_neg (show ¬ (7 : Int) = 6 by decide), if_pos rfl] at this; exact this))
    go_enter Tryd.func65, Tryd.ntmps65
    go_wp2_with (first | (go_at_call 34; refine (HT.out _).mono ?_; rintro e x ⟨rfl, hx⟩; replace HU := Lib.hid (HU.out.trans hx); replace B0 := Lib.hid (B0.out.up hx); replace B1 := Lib.hid (B1.out.up hx); replace B2 := Lib.hid (B2.out.up hx); replace B3 := Lib.hid (B3.out.up hx); clear hx; obtain ⟨t0, t1, t2, t3, t4⟩ := B0.out.five; obtain ⟨a0, a1⟩ := B1.out.two; obtain ⟨b0, b1⟩ := B2.out.two; obtain ⟨z0, z1⟩ := B3.out.two; have zf := B3.out.frozen) | (go_at_call 60; (first | (with_reducible refine (HA.out _).mono ?_) | (with_reducible refine (HB.out _).mono ?_)); rintro e x ⟨rfl, hx⟩; replace HU := Lib.hid (HU.out.trans hx); replace B0 := Lib.hid (B0.out.up hx); replace B1 := Lib.hid (B1.out.up hx); replace B2 := Lib.hid (B2.out.up hx); replace B3 := Lib.hid (B3.out.up hx); clear hx; obtain ⟨t0, t1, t2, t3, t4⟩ := B0.out.five; obtain ⟨a0, a1⟩ := B1.out.two; obtain ⟨b0, b1⟩ := B2.out.two; obtain ⟨z0, z1⟩ := B3.out.two; have zf := B3.out.frozen) | (go_at_call 79; refine (HX.out _).mono ?_; rintro e x ⟨rfl, hx⟩; replace HU := Lib.hid (HU.out.trans hx); replace B0 := Lib.hid (B0.out.up hx); replace B1 := Lib.hid (B1.out.up hx); replace B2 := Lib.hid (B2.out.up hx); replace B3 := Lib.hid (B3.out.up hx); clear hx; obtain ⟨t0, t1, t2, t3, t4⟩ := B0.out.five; obtain ⟨a0, a1⟩ := B1.out.two; obtain ⟨b0, b1⟩ := B2.out.two; obtain ⟨z0, z1⟩ := B3.out.two; have zf := B3.out.frozen))
    all_goals
      refine bodyPost_ret (v := .tuple #[.agg #[.int .i64 r.1, .int .i64 r.2.1], .int .i64 r.2.2]) (by simp [results, Tryd.results65, go_sem, *]) rfl ?_
      first | exact ⟨rfl, (HU.out.setCell (p := ⟨w.heap.size + 3, 0, none⟩) (by show w.heap.size ≤ w.heap.size + 3; omega) _).setCell (p := ⟨w.heap.size + 3, 1, none⟩) (by show w.heap.size ≤ w.heap.size + 3; omega) _⟩ | exact ⟨rfl, ((((Up.refl w).alloc _).alloc _).alloc _).alloc _⟩
  exfalso; omega
end Go.Proofs.YtbpojmhgifgfdaaDoor
