/-
  isa as text: readOperand. Printed by mkIsN.py.
-/
import Derived.Test.YtlglfdhiopnglaaGreatDoorGf
import Derived.Test.YtlglfdhiopnglaaGreatDoorIsZ
namespace Go.Proofs.YtlglfdhiopnglaaGreatDoor
open Go.ChangeShapes Go.WideShapes Go.ChangeAt Go.RowKit
set_option linter.unusedVariables false
set_option linter.unusedSimpArgs false
set_option maxRecDepth 100000

/-- readOperand: the instruction after a word is read. -/
def rdOpd (x : Ins) (k : Int) (l : List (List UInt8)) : Ins :=
  if k = 1 ∨ k = 4 ∨ k = 7 then (x.1, atoiV (digL (l.getD 0 [])), x.2.2.1, x.2.2.2.1, x.2.2.2.2.1, x.2.2.2.2.2)
  else if k = 2 ∨ k = 5 ∨ k = 8 then (x.1, x.2.1, atoiV (digL (l.getD 0 [])), x.2.2.2.1, x.2.2.2.2.1, x.2.2.2.2.2)
  else if k = 3 ∨ k = 6 ∨ k = 9 ∨ k = 11 ∨ k = 13 then (x.1, x.2.1, x.2.2.1, atoiV (digL (l.getD 0 [])), x.2.2.2.2.1, x.2.2.2.2.2)
  else if k = 10 ∨ k = 12 then (x.1, x.2.1, x.2.2.1, x.2.2.2.1, (atoiV (digL (l.getD 0 [])), 1), x.2.2.2.2.2)
  else if k = 14 then (x.1, x.2.1, x.2.2.1, x.2.2.2.1, (fprF (l.getD 0 [])).1, x.2.2.2.2.2)
  else if k = 15 ∨ k = 16 then (x.1, x.2.1, x.2.2.1, x.2.2.2.1, (rdName (l.getD 0 []), 1), x.2.2.2.2.2)
  else (x.1, x.2.1, x.2.2.1, x.2.2.2.1, x.2.2.2.2.1, rdType l)
/-- An instruction's cells. -/
def insCs (x : Ins) : Array Value := #[.int .i64 x.1, .int .i64 x.2.1, .int .i64 x.2.2.1, .int .i64 x.2.2.2.1, .int .i64 x.2.2.2.2.1.1, .int .i64 x.2.2.2.2.1.2, .int .i64 x.2.2.2.2.2.1, .int .i64 x.2.2.2.2.2.2.1, .int .i64 x.2.2.2.2.2.2.2.1, .int .i64 x.2.2.2.2.2.2.2.2.1, .int .i64 x.2.2.2.2.2.2.2.2.2]
theorem BoxC.i0 {w : World} {g : Nat} {t : TypeId} {x : Ins} (h : BoxC w g t (insCs x)) : w.cell? ⟨g, 0, none⟩ = some (.int .i64 x.1) := cell_of_row _ _ _ _ _ _ h
theorem BoxC.i1 {w : World} {g : Nat} {t : TypeId} {x : Ins} (h : BoxC w g t (insCs x)) : w.cell? ⟨g, 1, none⟩ = some (.int .i64 x.2.1) := cell_of_row _ _ _ _ _ _ h
theorem BoxC.i2 {w : World} {g : Nat} {t : TypeId} {x : Ins} (h : BoxC w g t (insCs x)) : w.cell? ⟨g, 2, none⟩ = some (.int .i64 x.2.2.1) := cell_of_row _ _ _ _ _ _ h
theorem BoxC.i3 {w : World} {g : Nat} {t : TypeId} {x : Ins} (h : BoxC w g t (insCs x)) : w.cell? ⟨g, 3, none⟩ = some (.int .i64 x.2.2.2.1) := cell_of_row _ _ _ _ _ _ h
theorem BoxC.i4 {w : World} {g : Nat} {t : TypeId} {x : Ins} (h : BoxC w g t (insCs x)) : w.cell? ⟨g, 4, none⟩ = some (.int .i64 x.2.2.2.2.1.1) := cell_of_row _ _ _ _ _ _ h
theorem BoxC.i5 {w : World} {g : Nat} {t : TypeId} {x : Ins} (h : BoxC w g t (insCs x)) : w.cell? ⟨g, 5, none⟩ = some (.int .i64 x.2.2.2.2.1.2) := cell_of_row _ _ _ _ _ _ h
theorem BoxC.i6 {w : World} {g : Nat} {t : TypeId} {x : Ins} (h : BoxC w g t (insCs x)) : w.cell? ⟨g, 6, none⟩ = some (.int .i64 x.2.2.2.2.2.1) := cell_of_row _ _ _ _ _ _ h
theorem BoxC.i7 {w : World} {g : Nat} {t : TypeId} {x : Ins} (h : BoxC w g t (insCs x)) : w.cell? ⟨g, 7, none⟩ = some (.int .i64 x.2.2.2.2.2.2.1) := cell_of_row _ _ _ _ _ _ h
theorem BoxC.i8 {w : World} {g : Nat} {t : TypeId} {x : Ins} (h : BoxC w g t (insCs x)) : w.cell? ⟨g, 8, none⟩ = some (.int .i64 x.2.2.2.2.2.2.2.1) := cell_of_row _ _ _ _ _ _ h
theorem BoxC.i9 {w : World} {g : Nat} {t : TypeId} {x : Ins} (h : BoxC w g t (insCs x)) : w.cell? ⟨g, 9, none⟩ = some (.int .i64 x.2.2.2.2.2.2.2.2.1) := cell_of_row _ _ _ _ _ _ h
theorem BoxC.i10 {w : World} {g : Nat} {t : TypeId} {x : Ins} (h : BoxC w g t (insCs x)) : w.cell? ⟨g, 10, none⟩ = some (.int .i64 x.2.2.2.2.2.2.2.2.2) := cell_of_row _ _ _ _ _ _ h
theorem cut_len (s : List UInt8) (c : UInt8) : (Lib.cut s [c]).1.length ≤ s.length ∧ (Lib.cut s [c]).2.1.length ≤ s.length := by
  unfold Lib.cut
  split
  · constructor
    · exact (List.take_sublist _ _).length_le
    · exact (List.drop_sublist _ _).length_le
  · exact ⟨Nat.le_refl _, Nat.zero_le _⟩
theorem trimPrefix_len (s p : List UInt8) : (Lib.trimPrefix s p).length ≤ s.length := by
  unfold Lib.trimPrefix
  split <;> simp
set_option maxHeartbeats 8000000 in
theorem isa_readOperand (g : Nat) (x : Ins) (k : Int) (hk : 1 ≤ k ∧ k ≤ 17) (a : Option Addr) (n c : Nat) (l : List ByteArray) (W : World) (h : StrsAt W (.slice a n c) l) (hn : l.length = n) (h0 : 0 < n)
    (hs : ∀ k, (l.getD k ⟨#[]⟩).size ≤ 1000000) (hR : RdW W) (hb : BoxC W g 42 (insCs x)) :
    Calls Tryz.prog 66 #[.pointer (some ⟨g, 0, none⟩), .int .i64 k, .slice a n c] W fun e w' => e = .returned (.tuple #[]) ∧ UpBut g W w' ∧ BoxC w' g 42 (insCs (rdOpd x k (l.map (·.toList)))) := by
  obtain ⟨g2, o, rfl, hgl, hc0⟩ := h.get rfl 0 h0
  rw [Nat.add_zero] at hc0
  have hs0 := hs 0
  have HT := Lib.hid (fun (y : World) (hy : Up W y) => isa_readType (some ⟨g2, o, none⟩) n c l y (h.up hy) hn hs (hR.up hy))
  have e0 : (l.map (·.toList)).getD 0 [] = (l.getD 0 ⟨#[]⟩).toList := getD_map_toList l 0
  obtain ⟨y, hy⟩ : ∃ y, rdOpd x k (l.map (·.toList)) = y := ⟨_, rfl⟩
  rw [hy]
  unfold rdOpd at hy
  rw [e0] at hy
  have hnm : n ≤ 9223372036854775807 := by rw [← hn]; exact h.max
  clear e0 h hn hs
  generalize rdType (l.map (·.toList)) = T at *
  generalize l.getD 0 ⟨#[]⟩ = s0 at *
  obtain ⟨t1, t2, t3, t4, t5⟩ := T
  have HT : Hid (∀ y, Up W y → Calls Tryz.prog 94 #[.slice (some ⟨g2, o, none⟩) n c] y fun e w' => e = .returned (.agg #[.int .i64 t1, .int .i64 t2, .int .i64 t3, .int .i64 t4, .int .i64 t5]) ∧ Up y w') := HT
  have HTL := Lib.hid (fun y => s_TrimLeft s0 y)
  have szd : (bst (digL s0.toList)).size ≤ 1000000 := by
    have := digL_len s0.toList
    have e1 : s0.toList.length = s0.size := by rw [Lib.toList_data]; rfl
    have e2 : (bst (digL s0.toList)).size = (digL s0.toList).length := by simp [bst, ByteArray.size]
    omega
  have HA := Lib.hid (fun y (hy : Up W y) => s_Atoi (bst (digL s0.toList)) szd y (hR.up hy))
  rw [bst_list] at HA
  have HF := Lib.hid (fun y (hy : Up W y) => frac_Parse s0 hs0 y (hR.up hy) (Nat.le_trans (cut_len s0.toList 47).1 (by rw [Lib.toList_data]; exact hs0)) (Nat.le_trans (cut_len s0.toList 47).2 (by rw [Lib.toList_data]; exact hs0)) (Nat.le_trans (trimPrefix_len _ _) (Nat.le_trans (cut_len s0.toList 47).1 (by rw [Lib.toList_data]; exact hs0))))
  have HN := Lib.hid (fun y => isa_readName s0 y)
  have HU := Lib.hid (Up.refl W)
  have HB := Lib.hid hb
  have HC0 := Lib.hid hc0
  have HY := Lib.hid hy
  have h0' : (n = 0) = False := by simp; omega
  have h0n := Lib.hid h0
  clear hR hb hc0 hy hs0 szd
  generalize atoiV (digL s0.toList) = v at *
  generalize rdName s0.toList = q at *
  generalize (fprF s0.toList).1 = f at *
  obtain ⟨f1, f2⟩ := f
  obtain ⟨op, A, b, c', ⟨n1, d⟩, kd, bi, fr, ro, ov⟩ := x
  have cw := cell_up HU.out HC0.out
  have h0 := h0n.out
  have hk' : k = 1 ∨ k = 2 ∨ k = 3 ∨ k = 4 ∨ k = 5 ∨ k = 6 ∨ k = 7 ∨ k = 8 ∨ k = 9 ∨ k = 10 ∨ k = 11 ∨ k = 12 ∨ k = 13 ∨ k = 14 ∨ k = 15 ∨ k = 16 ∨ k = 17 := by omega
  clear hk
  rcases hk' with rfl | rfl | rfl | rfl | rfl | rfl | rfl | rfl | rfl | rfl | rfl | rfl | rfl | rfl | rfl | rfl | rfl
  · have HE := HY.out
    simp (config := {decide := true}) only [if_true, if_false, or_true, true_or, or_self] at HE
    have HE := Lib.hid HE
    clear HY
    go_enter Tryz.func66, Tryz.ntmps66
    go_wp2_with (first
    | (go_at_call 91; refine (HTL.out _).mono ?_; rintro e y ⟨rfl, hx⟩; replace HU := Lib.hid (HU.out.trans hx); replace HB := Lib.hid (HB.out.up hx); clear hx; (try clear cw); have cw := cell_up HU.out HC0.out; (try clear bf b1); have bf := HB.out.frozen; have b1 := HB.out.i1)
    | (go_at_call 92; refine (HA.out _ HU.out).mono ?_; rintro e y ⟨ev, rfl, hx⟩; replace HU := Lib.hid (HU.out.trans hx); replace HB := Lib.hid (HB.out.up hx); clear hx; (try clear cw); have cw := cell_up HU.out HC0.out; (try clear bf b1); have bf := HB.out.frozen; have b1 := HB.out.i1)
    | (go_at_call 93; refine (HF.out _ HU.out).mono ?_; rintro e y ⟨rfl, hx⟩; replace HU := Lib.hid (HU.out.trans hx); replace HB := Lib.hid (HB.out.up hx); clear hx; (try clear cw); have cw := cell_up HU.out HC0.out; (try clear bf b1); have bf := HB.out.frozen; have b1 := HB.out.i1)
    | (go_at_call 65; refine (HN.out _).mono ?_; rintro e y ⟨rfl, rfl⟩)
    | (go_at_call 94; refine (HT.out _ HU.out).mono ?_; rintro e y ⟨rfl, hx⟩; replace HU := Lib.hid (HU.out.trans hx); replace HB := Lib.hid (HB.out.up hx); clear hx; (try clear cw); have cw := cell_up HU.out HC0.out; (try clear bf b1); have bf := HB.out.frozen; have b1 := HB.out.i1))
    have HU2 := Lib.hid ((HU.out.but g).setCell 1 none (.int .i64 v))
    have HB2 := Lib.hid (set_heap (o := 1) (HB.out) (.int .i64 v))
    rw [← HE.out]
    go_end0
    exact ⟨rfl, HU2.out, HB2.out⟩
  · have HE := HY.out
    simp (config := {decide := true}) only [if_true, if_false, or_true, true_or, or_self] at HE
    have HE := Lib.hid HE
    clear HY
    go_enter Tryz.func66, Tryz.ntmps66
    go_wp2_with (first
    | (go_at_call 91; refine (HTL.out _).mono ?_; rintro e y ⟨rfl, hx⟩; replace HU := Lib.hid (HU.out.trans hx); replace HB := Lib.hid (HB.out.up hx); clear hx; (try clear cw); have cw := cell_up HU.out HC0.out; (try clear bf b2); have bf := HB.out.frozen; have b2 := HB.out.i2)
    | (go_at_call 92; refine (HA.out _ HU.out).mono ?_; rintro e y ⟨ev, rfl, hx⟩; replace HU := Lib.hid (HU.out.trans hx); replace HB := Lib.hid (HB.out.up hx); clear hx; (try clear cw); have cw := cell_up HU.out HC0.out; (try clear bf b2); have bf := HB.out.frozen; have b2 := HB.out.i2)
    | (go_at_call 93; refine (HF.out _ HU.out).mono ?_; rintro e y ⟨rfl, hx⟩; replace HU := Lib.hid (HU.out.trans hx); replace HB := Lib.hid (HB.out.up hx); clear hx; (try clear cw); have cw := cell_up HU.out HC0.out; (try clear bf b2); have bf := HB.out.frozen; have b2 := HB.out.i2)
    | (go_at_call 65; refine (HN.out _).mono ?_; rintro e y ⟨rfl, rfl⟩)
    | (go_at_call 94; refine (HT.out _ HU.out).mono ?_; rintro e y ⟨rfl, hx⟩; replace HU := Lib.hid (HU.out.trans hx); replace HB := Lib.hid (HB.out.up hx); clear hx; (try clear cw); have cw := cell_up HU.out HC0.out; (try clear bf b2); have bf := HB.out.frozen; have b2 := HB.out.i2))
    have HU2 := Lib.hid ((HU.out.but g).setCell 2 none (.int .i64 v))
    have HB2 := Lib.hid (set_heap (o := 2) (HB.out) (.int .i64 v))
    rw [← HE.out]
    go_end0
    exact ⟨rfl, HU2.out, HB2.out⟩
  · have HE := HY.out
    simp (config := {decide := true}) only [if_true, if_false, or_true, true_or, or_self] at HE
    have HE := Lib.hid HE
    clear HY
    go_enter Tryz.func66, Tryz.ntmps66
    go_wp2_with (first
    | (go_at_call 91; refine (HTL.out _).mono ?_; rintro e y ⟨rfl, hx⟩; replace HU := Lib.hid (HU.out.trans hx); replace HB := Lib.hid (HB.out.up hx); clear hx; (try clear cw); have cw := cell_up HU.out HC0.out; (try clear bf b3); have bf := HB.out.frozen; have b3 := HB.out.i3)
    | (go_at_call 92; refine (HA.out _ HU.out).mono ?_; rintro e y ⟨ev, rfl, hx⟩; replace HU := Lib.hid (HU.out.trans hx); replace HB := Lib.hid (HB.out.up hx); clear hx; (try clear cw); have cw := cell_up HU.out HC0.out; (try clear bf b3); have bf := HB.out.frozen; have b3 := HB.out.i3)
    | (go_at_call 93; refine (HF.out _ HU.out).mono ?_; rintro e y ⟨rfl, hx⟩; replace HU := Lib.hid (HU.out.trans hx); replace HB := Lib.hid (HB.out.up hx); clear hx; (try clear cw); have cw := cell_up HU.out HC0.out; (try clear bf b3); have bf := HB.out.frozen; have b3 := HB.out.i3)
    | (go_at_call 65; refine (HN.out _).mono ?_; rintro e y ⟨rfl, rfl⟩)
    | (go_at_call 94; refine (HT.out _ HU.out).mono ?_; rintro e y ⟨rfl, hx⟩; replace HU := Lib.hid (HU.out.trans hx); replace HB := Lib.hid (HB.out.up hx); clear hx; (try clear cw); have cw := cell_up HU.out HC0.out; (try clear bf b3); have bf := HB.out.frozen; have b3 := HB.out.i3))
    have HU2 := Lib.hid ((HU.out.but g).setCell 3 none (.int .i64 v))
    have HB2 := Lib.hid (set_heap (o := 3) (HB.out) (.int .i64 v))
    rw [← HE.out]
    go_end0
    exact ⟨rfl, HU2.out, HB2.out⟩
  · have HE := HY.out
    simp (config := {decide := true}) only [if_true, if_false, or_true, true_or, or_self] at HE
    have HE := Lib.hid HE
    clear HY
    go_enter Tryz.func66, Tryz.ntmps66
    go_wp2_with (first
    | (go_at_call 91; refine (HTL.out _).mono ?_; rintro e y ⟨rfl, hx⟩; replace HU := Lib.hid (HU.out.trans hx); replace HB := Lib.hid (HB.out.up hx); clear hx; (try clear cw); have cw := cell_up HU.out HC0.out; (try clear bf b1); have bf := HB.out.frozen; have b1 := HB.out.i1)
    | (go_at_call 92; refine (HA.out _ HU.out).mono ?_; rintro e y ⟨ev, rfl, hx⟩; replace HU := Lib.hid (HU.out.trans hx); replace HB := Lib.hid (HB.out.up hx); clear hx; (try clear cw); have cw := cell_up HU.out HC0.out; (try clear bf b1); have bf := HB.out.frozen; have b1 := HB.out.i1)
    | (go_at_call 93; refine (HF.out _ HU.out).mono ?_; rintro e y ⟨rfl, hx⟩; replace HU := Lib.hid (HU.out.trans hx); replace HB := Lib.hid (HB.out.up hx); clear hx; (try clear cw); have cw := cell_up HU.out HC0.out; (try clear bf b1); have bf := HB.out.frozen; have b1 := HB.out.i1)
    | (go_at_call 65; refine (HN.out _).mono ?_; rintro e y ⟨rfl, rfl⟩)
    | (go_at_call 94; refine (HT.out _ HU.out).mono ?_; rintro e y ⟨rfl, hx⟩; replace HU := Lib.hid (HU.out.trans hx); replace HB := Lib.hid (HB.out.up hx); clear hx; (try clear cw); have cw := cell_up HU.out HC0.out; (try clear bf b1); have bf := HB.out.frozen; have b1 := HB.out.i1))
    have HU2 := Lib.hid ((HU.out.but g).setCell 1 none (.int .i64 v))
    have HB2 := Lib.hid (set_heap (o := 1) (HB.out) (.int .i64 v))
    rw [← HE.out]
    go_end0
    exact ⟨rfl, HU2.out, HB2.out⟩
  · have HE := HY.out
    simp (config := {decide := true}) only [if_true, if_false, or_true, true_or, or_self] at HE
    have HE := Lib.hid HE
    clear HY
    go_enter Tryz.func66, Tryz.ntmps66
    go_wp2_with (first
    | (go_at_call 91; refine (HTL.out _).mono ?_; rintro e y ⟨rfl, hx⟩; replace HU := Lib.hid (HU.out.trans hx); replace HB := Lib.hid (HB.out.up hx); clear hx; (try clear cw); have cw := cell_up HU.out HC0.out; (try clear bf b2); have bf := HB.out.frozen; have b2 := HB.out.i2)
    | (go_at_call 92; refine (HA.out _ HU.out).mono ?_; rintro e y ⟨ev, rfl, hx⟩; replace HU := Lib.hid (HU.out.trans hx); replace HB := Lib.hid (HB.out.up hx); clear hx; (try clear cw); have cw := cell_up HU.out HC0.out; (try clear bf b2); have bf := HB.out.frozen; have b2 := HB.out.i2)
    | (go_at_call 93; refine (HF.out _ HU.out).mono ?_; rintro e y ⟨rfl, hx⟩; replace HU := Lib.hid (HU.out.trans hx); replace HB := Lib.hid (HB.out.up hx); clear hx; (try clear cw); have cw := cell_up HU.out HC0.out; (try clear bf b2); have bf := HB.out.frozen; have b2 := HB.out.i2)
    | (go_at_call 65; refine (HN.out _).mono ?_; rintro e y ⟨rfl, rfl⟩)
    | (go_at_call 94; refine (HT.out _ HU.out).mono ?_; rintro e y ⟨rfl, hx⟩; replace HU := Lib.hid (HU.out.trans hx); replace HB := Lib.hid (HB.out.up hx); clear hx; (try clear cw); have cw := cell_up HU.out HC0.out; (try clear bf b2); have bf := HB.out.frozen; have b2 := HB.out.i2))
    have HU2 := Lib.hid ((HU.out.but g).setCell 2 none (.int .i64 v))
    have HB2 := Lib.hid (set_heap (o := 2) (HB.out) (.int .i64 v))
    rw [← HE.out]
    go_end0
    exact ⟨rfl, HU2.out, HB2.out⟩
  · have HE := HY.out
    simp (config := {decide := true}) only [if_true, if_false, or_true, true_or, or_self] at HE
    have HE := Lib.hid HE
    clear HY
    go_enter Tryz.func66, Tryz.ntmps66
    go_wp2_with (first
    | (go_at_call 91; refine (HTL.out _).mono ?_; rintro e y ⟨rfl, hx⟩; replace HU := Lib.hid (HU.out.trans hx); replace HB := Lib.hid (HB.out.up hx); clear hx; (try clear cw); have cw := cell_up HU.out HC0.out; (try clear bf b3); have bf := HB.out.frozen; have b3 := HB.out.i3)
    | (go_at_call 92; refine (HA.out _ HU.out).mono ?_; rintro e y ⟨ev, rfl, hx⟩; replace HU := Lib.hid (HU.out.trans hx); replace HB := Lib.hid (HB.out.up hx); clear hx; (try clear cw); have cw := cell_up HU.out HC0.out; (try clear bf b3); have bf := HB.out.frozen; have b3 := HB.out.i3)
    | (go_at_call 93; refine (HF.out _ HU.out).mono ?_; rintro e y ⟨rfl, hx⟩; replace HU := Lib.hid (HU.out.trans hx); replace HB := Lib.hid (HB.out.up hx); clear hx; (try clear cw); have cw := cell_up HU.out HC0.out; (try clear bf b3); have bf := HB.out.frozen; have b3 := HB.out.i3)
    | (go_at_call 65; refine (HN.out _).mono ?_; rintro e y ⟨rfl, rfl⟩)
    | (go_at_call 94; refine (HT.out _ HU.out).mono ?_; rintro e y ⟨rfl, hx⟩; replace HU := Lib.hid (HU.out.trans hx); replace HB := Lib.hid (HB.out.up hx); clear hx; (try clear cw); have cw := cell_up HU.out HC0.out; (try clear bf b3); have bf := HB.out.frozen; have b3 := HB.out.i3))
    have HU2 := Lib.hid ((HU.out.but g).setCell 3 none (.int .i64 v))
    have HB2 := Lib.hid (set_heap (o := 3) (HB.out) (.int .i64 v))
    rw [← HE.out]
    go_end0
    exact ⟨rfl, HU2.out, HB2.out⟩
  · have HE := HY.out
    simp (config := {decide := true}) only [if_true, if_false, or_true, true_or, or_self] at HE
    have HE := Lib.hid HE
    clear HY
    go_enter Tryz.func66, Tryz.ntmps66
    go_wp2_with (first
    | (go_at_call 91; refine (HTL.out _).mono ?_; rintro e y ⟨rfl, hx⟩; replace HU := Lib.hid (HU.out.trans hx); replace HB := Lib.hid (HB.out.up hx); clear hx; (try clear cw); have cw := cell_up HU.out HC0.out; (try clear bf b1); have bf := HB.out.frozen; have b1 := HB.out.i1)
    | (go_at_call 92; refine (HA.out _ HU.out).mono ?_; rintro e y ⟨ev, rfl, hx⟩; replace HU := Lib.hid (HU.out.trans hx); replace HB := Lib.hid (HB.out.up hx); clear hx; (try clear cw); have cw := cell_up HU.out HC0.out; (try clear bf b1); have bf := HB.out.frozen; have b1 := HB.out.i1)
    | (go_at_call 93; refine (HF.out _ HU.out).mono ?_; rintro e y ⟨rfl, hx⟩; replace HU := Lib.hid (HU.out.trans hx); replace HB := Lib.hid (HB.out.up hx); clear hx; (try clear cw); have cw := cell_up HU.out HC0.out; (try clear bf b1); have bf := HB.out.frozen; have b1 := HB.out.i1)
    | (go_at_call 65; refine (HN.out _).mono ?_; rintro e y ⟨rfl, rfl⟩)
    | (go_at_call 94; refine (HT.out _ HU.out).mono ?_; rintro e y ⟨rfl, hx⟩; replace HU := Lib.hid (HU.out.trans hx); replace HB := Lib.hid (HB.out.up hx); clear hx; (try clear cw); have cw := cell_up HU.out HC0.out; (try clear bf b1); have bf := HB.out.frozen; have b1 := HB.out.i1))
    have HU2 := Lib.hid ((HU.out.but g).setCell 1 none (.int .i64 v))
    have HB2 := Lib.hid (set_heap (o := 1) (HB.out) (.int .i64 v))
    rw [← HE.out]
    go_end0
    exact ⟨rfl, HU2.out, HB2.out⟩
  · have HE := HY.out
    simp (config := {decide := true}) only [if_true, if_false, or_true, true_or, or_self] at HE
    have HE := Lib.hid HE
    clear HY
    go_enter Tryz.func66, Tryz.ntmps66
    go_wp2_with (first
    | (go_at_call 91; refine (HTL.out _).mono ?_; rintro e y ⟨rfl, hx⟩; replace HU := Lib.hid (HU.out.trans hx); replace HB := Lib.hid (HB.out.up hx); clear hx; (try clear cw); have cw := cell_up HU.out HC0.out; (try clear bf b2); have bf := HB.out.frozen; have b2 := HB.out.i2)
    | (go_at_call 92; refine (HA.out _ HU.out).mono ?_; rintro e y ⟨ev, rfl, hx⟩; replace HU := Lib.hid (HU.out.trans hx); replace HB := Lib.hid (HB.out.up hx); clear hx; (try clear cw); have cw := cell_up HU.out HC0.out; (try clear bf b2); have bf := HB.out.frozen; have b2 := HB.out.i2)
    | (go_at_call 93; refine (HF.out _ HU.out).mono ?_; rintro e y ⟨rfl, hx⟩; replace HU := Lib.hid (HU.out.trans hx); replace HB := Lib.hid (HB.out.up hx); clear hx; (try clear cw); have cw := cell_up HU.out HC0.out; (try clear bf b2); have bf := HB.out.frozen; have b2 := HB.out.i2)
    | (go_at_call 65; refine (HN.out _).mono ?_; rintro e y ⟨rfl, rfl⟩)
    | (go_at_call 94; refine (HT.out _ HU.out).mono ?_; rintro e y ⟨rfl, hx⟩; replace HU := Lib.hid (HU.out.trans hx); replace HB := Lib.hid (HB.out.up hx); clear hx; (try clear cw); have cw := cell_up HU.out HC0.out; (try clear bf b2); have bf := HB.out.frozen; have b2 := HB.out.i2))
    have HU2 := Lib.hid ((HU.out.but g).setCell 2 none (.int .i64 v))
    have HB2 := Lib.hid (set_heap (o := 2) (HB.out) (.int .i64 v))
    rw [← HE.out]
    go_end0
    exact ⟨rfl, HU2.out, HB2.out⟩
  · have HE := HY.out
    simp (config := {decide := true}) only [if_true, if_false, or_true, true_or, or_self] at HE
    have HE := Lib.hid HE
    clear HY
    go_enter Tryz.func66, Tryz.ntmps66
    go_wp2_with (first
    | (go_at_call 91; refine (HTL.out _).mono ?_; rintro e y ⟨rfl, hx⟩; replace HU := Lib.hid (HU.out.trans hx); replace HB := Lib.hid (HB.out.up hx); clear hx; (try clear cw); have cw := cell_up HU.out HC0.out; (try clear bf b3); have bf := HB.out.frozen; have b3 := HB.out.i3)
    | (go_at_call 92; refine (HA.out _ HU.out).mono ?_; rintro e y ⟨ev, rfl, hx⟩; replace HU := Lib.hid (HU.out.trans hx); replace HB := Lib.hid (HB.out.up hx); clear hx; (try clear cw); have cw := cell_up HU.out HC0.out; (try clear bf b3); have bf := HB.out.frozen; have b3 := HB.out.i3)
    | (go_at_call 93; refine (HF.out _ HU.out).mono ?_; rintro e y ⟨rfl, hx⟩; replace HU := Lib.hid (HU.out.trans hx); replace HB := Lib.hid (HB.out.up hx); clear hx; (try clear cw); have cw := cell_up HU.out HC0.out; (try clear bf b3); have bf := HB.out.frozen; have b3 := HB.out.i3)
    | (go_at_call 65; refine (HN.out _).mono ?_; rintro e y ⟨rfl, rfl⟩)
    | (go_at_call 94; refine (HT.out _ HU.out).mono ?_; rintro e y ⟨rfl, hx⟩; replace HU := Lib.hid (HU.out.trans hx); replace HB := Lib.hid (HB.out.up hx); clear hx; (try clear cw); have cw := cell_up HU.out HC0.out; (try clear bf b3); have bf := HB.out.frozen; have b3 := HB.out.i3))
    have HU2 := Lib.hid ((HU.out.but g).setCell 3 none (.int .i64 v))
    have HB2 := Lib.hid (set_heap (o := 3) (HB.out) (.int .i64 v))
    rw [← HE.out]
    go_end0
    exact ⟨rfl, HU2.out, HB2.out⟩
  · have HE := HY.out
    simp (config := {decide := true}) only [if_true, if_false, or_true, true_or, or_self] at HE
    have HE := Lib.hid HE
    clear HY
    go_enter Tryz.func66, Tryz.ntmps66
    go_wp2_with (first
    | (go_at_call 91; refine (HTL.out _).mono ?_; rintro e y ⟨rfl, hx⟩; replace HU := Lib.hid (HU.out.trans hx); replace HB := Lib.hid (HB.out.up hx); clear hx; (try clear cw); have cw := cell_up HU.out HC0.out; (try clear bf b4 b5); have bf := HB.out.frozen; have b4 := HB.out.i4; have b5 := HB.out.i5)
    | (go_at_call 92; refine (HA.out _ HU.out).mono ?_; rintro e y ⟨ev, rfl, hx⟩; replace HU := Lib.hid (HU.out.trans hx); replace HB := Lib.hid (HB.out.up hx); clear hx; (try clear cw); have cw := cell_up HU.out HC0.out; (try clear bf b4 b5); have bf := HB.out.frozen; have b4 := HB.out.i4; have b5 := HB.out.i5)
    | (go_at_call 93; refine (HF.out _ HU.out).mono ?_; rintro e y ⟨rfl, hx⟩; replace HU := Lib.hid (HU.out.trans hx); replace HB := Lib.hid (HB.out.up hx); clear hx; (try clear cw); have cw := cell_up HU.out HC0.out; (try clear bf b4 b5); have bf := HB.out.frozen; have b4 := HB.out.i4; have b5 := HB.out.i5)
    | (go_at_call 65; refine (HN.out _).mono ?_; rintro e y ⟨rfl, rfl⟩)
    | (go_at_call 94; refine (HT.out _ HU.out).mono ?_; rintro e y ⟨rfl, hx⟩; replace HU := Lib.hid (HU.out.trans hx); replace HB := Lib.hid (HB.out.up hx); clear hx; (try clear cw); have cw := cell_up HU.out HC0.out; (try clear bf b4 b5); have bf := HB.out.frozen; have b4 := HB.out.i4; have b5 := HB.out.i5))
    have HU2 := Lib.hid (((HU.out.but g).setCell 4 none (.int .i64 v)).setCell 5 none (.int .i64 1))
    have HB2 := Lib.hid (set_heap (o := 5) (set_heap (o := 4) (HB.out) (.int .i64 v)) (.int .i64 1))
    rw [← HE.out]
    go_end0
    exact ⟨rfl, HU2.out, HB2.out⟩
  · have HE := HY.out
    simp (config := {decide := true}) only [if_true, if_false, or_true, true_or, or_self] at HE
    have HE := Lib.hid HE
    clear HY
    go_enter Tryz.func66, Tryz.ntmps66
    go_wp2_with (first
    | (go_at_call 91; refine (HTL.out _).mono ?_; rintro e y ⟨rfl, hx⟩; replace HU := Lib.hid (HU.out.trans hx); replace HB := Lib.hid (HB.out.up hx); clear hx; (try clear cw); have cw := cell_up HU.out HC0.out; (try clear bf b3); have bf := HB.out.frozen; have b3 := HB.out.i3)
    | (go_at_call 92; refine (HA.out _ HU.out).mono ?_; rintro e y ⟨ev, rfl, hx⟩; replace HU := Lib.hid (HU.out.trans hx); replace HB := Lib.hid (HB.out.up hx); clear hx; (try clear cw); have cw := cell_up HU.out HC0.out; (try clear bf b3); have bf := HB.out.frozen; have b3 := HB.out.i3)
    | (go_at_call 93; refine (HF.out _ HU.out).mono ?_; rintro e y ⟨rfl, hx⟩; replace HU := Lib.hid (HU.out.trans hx); replace HB := Lib.hid (HB.out.up hx); clear hx; (try clear cw); have cw := cell_up HU.out HC0.out; (try clear bf b3); have bf := HB.out.frozen; have b3 := HB.out.i3)
    | (go_at_call 65; refine (HN.out _).mono ?_; rintro e y ⟨rfl, rfl⟩)
    | (go_at_call 94; refine (HT.out _ HU.out).mono ?_; rintro e y ⟨rfl, hx⟩; replace HU := Lib.hid (HU.out.trans hx); replace HB := Lib.hid (HB.out.up hx); clear hx; (try clear cw); have cw := cell_up HU.out HC0.out; (try clear bf b3); have bf := HB.out.frozen; have b3 := HB.out.i3))
    have HU2 := Lib.hid ((HU.out.but g).setCell 3 none (.int .i64 v))
    have HB2 := Lib.hid (set_heap (o := 3) (HB.out) (.int .i64 v))
    rw [← HE.out]
    go_end0
    exact ⟨rfl, HU2.out, HB2.out⟩
  · have HE := HY.out
    simp (config := {decide := true}) only [if_true, if_false, or_true, true_or, or_self] at HE
    have HE := Lib.hid HE
    clear HY
    go_enter Tryz.func66, Tryz.ntmps66
    go_wp2_with (first
    | (go_at_call 91; refine (HTL.out _).mono ?_; rintro e y ⟨rfl, hx⟩; replace HU := Lib.hid (HU.out.trans hx); replace HB := Lib.hid (HB.out.up hx); clear hx; (try clear cw); have cw := cell_up HU.out HC0.out; (try clear bf b4 b5); have bf := HB.out.frozen; have b4 := HB.out.i4; have b5 := HB.out.i5)
    | (go_at_call 92; refine (HA.out _ HU.out).mono ?_; rintro e y ⟨ev, rfl, hx⟩; replace HU := Lib.hid (HU.out.trans hx); replace HB := Lib.hid (HB.out.up hx); clear hx; (try clear cw); have cw := cell_up HU.out HC0.out; (try clear bf b4 b5); have bf := HB.out.frozen; have b4 := HB.out.i4; have b5 := HB.out.i5)
    | (go_at_call 93; refine (HF.out _ HU.out).mono ?_; rintro e y ⟨rfl, hx⟩; replace HU := Lib.hid (HU.out.trans hx); replace HB := Lib.hid (HB.out.up hx); clear hx; (try clear cw); have cw := cell_up HU.out HC0.out; (try clear bf b4 b5); have bf := HB.out.frozen; have b4 := HB.out.i4; have b5 := HB.out.i5)
    | (go_at_call 65; refine (HN.out _).mono ?_; rintro e y ⟨rfl, rfl⟩)
    | (go_at_call 94; refine (HT.out _ HU.out).mono ?_; rintro e y ⟨rfl, hx⟩; replace HU := Lib.hid (HU.out.trans hx); replace HB := Lib.hid (HB.out.up hx); clear hx; (try clear cw); have cw := cell_up HU.out HC0.out; (try clear bf b4 b5); have bf := HB.out.frozen; have b4 := HB.out.i4; have b5 := HB.out.i5))
    have HU2 := Lib.hid (((HU.out.but g).setCell 4 none (.int .i64 v)).setCell 5 none (.int .i64 1))
    have HB2 := Lib.hid (set_heap (o := 5) (set_heap (o := 4) (HB.out) (.int .i64 v)) (.int .i64 1))
    rw [← HE.out]
    go_end0
    exact ⟨rfl, HU2.out, HB2.out⟩
  · have HE := HY.out
    simp (config := {decide := true}) only [if_true, if_false, or_true, true_or, or_self] at HE
    have HE := Lib.hid HE
    clear HY
    go_enter Tryz.func66, Tryz.ntmps66
    go_wp2_with (first
    | (go_at_call 91; refine (HTL.out _).mono ?_; rintro e y ⟨rfl, hx⟩; replace HU := Lib.hid (HU.out.trans hx); replace HB := Lib.hid (HB.out.up hx); clear hx; (try clear cw); have cw := cell_up HU.out HC0.out; (try clear bf b3); have bf := HB.out.frozen; have b3 := HB.out.i3)
    | (go_at_call 92; refine (HA.out _ HU.out).mono ?_; rintro e y ⟨ev, rfl, hx⟩; replace HU := Lib.hid (HU.out.trans hx); replace HB := Lib.hid (HB.out.up hx); clear hx; (try clear cw); have cw := cell_up HU.out HC0.out; (try clear bf b3); have bf := HB.out.frozen; have b3 := HB.out.i3)
    | (go_at_call 93; refine (HF.out _ HU.out).mono ?_; rintro e y ⟨rfl, hx⟩; replace HU := Lib.hid (HU.out.trans hx); replace HB := Lib.hid (HB.out.up hx); clear hx; (try clear cw); have cw := cell_up HU.out HC0.out; (try clear bf b3); have bf := HB.out.frozen; have b3 := HB.out.i3)
    | (go_at_call 65; refine (HN.out _).mono ?_; rintro e y ⟨rfl, rfl⟩)
    | (go_at_call 94; refine (HT.out _ HU.out).mono ?_; rintro e y ⟨rfl, hx⟩; replace HU := Lib.hid (HU.out.trans hx); replace HB := Lib.hid (HB.out.up hx); clear hx; (try clear cw); have cw := cell_up HU.out HC0.out; (try clear bf b3); have bf := HB.out.frozen; have b3 := HB.out.i3))
    have HU2 := Lib.hid ((HU.out.but g).setCell 3 none (.int .i64 v))
    have HB2 := Lib.hid (set_heap (o := 3) (HB.out) (.int .i64 v))
    rw [← HE.out]
    go_end0
    exact ⟨rfl, HU2.out, HB2.out⟩
  · have HE := HY.out
    simp (config := {decide := true}) only [if_true, if_false, or_true, true_or, or_self] at HE
    have HE := Lib.hid HE
    clear HY
    go_enter Tryz.func66, Tryz.ntmps66
    go_wp2_with (first
    | (go_at_call 91; refine (HTL.out _).mono ?_; rintro e y ⟨rfl, hx⟩; replace HU := Lib.hid (HU.out.trans hx); replace HB := Lib.hid (HB.out.up hx); clear hx; (try clear cw); have cw := cell_up HU.out HC0.out; (try clear bf b4 b5); have bf := HB.out.frozen; have b4 := HB.out.i4; have b5 := HB.out.i5)
    | (go_at_call 92; refine (HA.out _ HU.out).mono ?_; rintro e y ⟨ev, rfl, hx⟩; replace HU := Lib.hid (HU.out.trans hx); replace HB := Lib.hid (HB.out.up hx); clear hx; (try clear cw); have cw := cell_up HU.out HC0.out; (try clear bf b4 b5); have bf := HB.out.frozen; have b4 := HB.out.i4; have b5 := HB.out.i5)
    | (go_at_call 93; refine (HF.out _ HU.out).mono ?_; rintro e y ⟨rfl, hx⟩; replace HU := Lib.hid (HU.out.trans hx); replace HB := Lib.hid (HB.out.up hx); clear hx; (try clear cw); have cw := cell_up HU.out HC0.out; (try clear bf b4 b5); have bf := HB.out.frozen; have b4 := HB.out.i4; have b5 := HB.out.i5)
    | (go_at_call 65; refine (HN.out _).mono ?_; rintro e y ⟨rfl, rfl⟩)
    | (go_at_call 94; refine (HT.out _ HU.out).mono ?_; rintro e y ⟨rfl, hx⟩; replace HU := Lib.hid (HU.out.trans hx); replace HB := Lib.hid (HB.out.up hx); clear hx; (try clear cw); have cw := cell_up HU.out HC0.out; (try clear bf b4 b5); have bf := HB.out.frozen; have b4 := HB.out.i4; have b5 := HB.out.i5))
    have HU2 := Lib.hid (((HU.out.but g).setCell 4 none (.int .i64 f1)).setCell 5 none (.int .i64 f2))
    have HB2 := Lib.hid (set_heap (o := 5) (set_heap (o := 4) (HB.out) (.int .i64 f1)) (.int .i64 f2))
    rw [← HE.out]
    go_end0
    exact ⟨rfl, HU2.out, HB2.out⟩
  · have HE := HY.out
    simp (config := {decide := true}) only [if_true, if_false, or_true, true_or, or_self] at HE
    have HE := Lib.hid HE
    clear HY
    go_enter Tryz.func66, Tryz.ntmps66
    go_wp2_with (first
    | (go_at_call 91; refine (HTL.out _).mono ?_; rintro e y ⟨rfl, hx⟩; replace HU := Lib.hid (HU.out.trans hx); replace HB := Lib.hid (HB.out.up hx); clear hx; (try clear cw); have cw := cell_up HU.out HC0.out; (try clear bf b4 b5); have bf := HB.out.frozen; have b4 := HB.out.i4; have b5 := HB.out.i5)
    | (go_at_call 92; refine (HA.out _ HU.out).mono ?_; rintro e y ⟨ev, rfl, hx⟩; replace HU := Lib.hid (HU.out.trans hx); replace HB := Lib.hid (HB.out.up hx); clear hx; (try clear cw); have cw := cell_up HU.out HC0.out; (try clear bf b4 b5); have bf := HB.out.frozen; have b4 := HB.out.i4; have b5 := HB.out.i5)
    | (go_at_call 93; refine (HF.out _ HU.out).mono ?_; rintro e y ⟨rfl, hx⟩; replace HU := Lib.hid (HU.out.trans hx); replace HB := Lib.hid (HB.out.up hx); clear hx; (try clear cw); have cw := cell_up HU.out HC0.out; (try clear bf b4 b5); have bf := HB.out.frozen; have b4 := HB.out.i4; have b5 := HB.out.i5)
    | (go_at_call 65; refine (HN.out _).mono ?_; rintro e y ⟨rfl, rfl⟩)
    | (go_at_call 94; refine (HT.out _ HU.out).mono ?_; rintro e y ⟨rfl, hx⟩; replace HU := Lib.hid (HU.out.trans hx); replace HB := Lib.hid (HB.out.up hx); clear hx; (try clear cw); have cw := cell_up HU.out HC0.out; (try clear bf b4 b5); have bf := HB.out.frozen; have b4 := HB.out.i4; have b5 := HB.out.i5))
    have HU2 := Lib.hid (((HU.out.but g).setCell 4 none (.int .i64 q)).setCell 5 none (.int .i64 1))
    have HB2 := Lib.hid (set_heap (o := 5) (set_heap (o := 4) (HB.out) (.int .i64 q)) (.int .i64 1))
    rw [← HE.out]
    go_end0
    exact ⟨rfl, HU2.out, HB2.out⟩
  · have HE := HY.out
    simp (config := {decide := true}) only [if_true, if_false, or_true, true_or, or_self] at HE
    have HE := Lib.hid HE
    clear HY
    go_enter Tryz.func66, Tryz.ntmps66
    go_wp2_with (first
    | (go_at_call 91; refine (HTL.out _).mono ?_; rintro e y ⟨rfl, hx⟩; replace HU := Lib.hid (HU.out.trans hx); replace HB := Lib.hid (HB.out.up hx); clear hx; (try clear cw); have cw := cell_up HU.out HC0.out; (try clear bf b4 b5); have bf := HB.out.frozen; have b4 := HB.out.i4; have b5 := HB.out.i5)
    | (go_at_call 92; refine (HA.out _ HU.out).mono ?_; rintro e y ⟨ev, rfl, hx⟩; replace HU := Lib.hid (HU.out.trans hx); replace HB := Lib.hid (HB.out.up hx); clear hx; (try clear cw); have cw := cell_up HU.out HC0.out; (try clear bf b4 b5); have bf := HB.out.frozen; have b4 := HB.out.i4; have b5 := HB.out.i5)
    | (go_at_call 93; refine (HF.out _ HU.out).mono ?_; rintro e y ⟨rfl, hx⟩; replace HU := Lib.hid (HU.out.trans hx); replace HB := Lib.hid (HB.out.up hx); clear hx; (try clear cw); have cw := cell_up HU.out HC0.out; (try clear bf b4 b5); have bf := HB.out.frozen; have b4 := HB.out.i4; have b5 := HB.out.i5)
    | (go_at_call 65; refine (HN.out _).mono ?_; rintro e y ⟨rfl, rfl⟩)
    | (go_at_call 94; refine (HT.out _ HU.out).mono ?_; rintro e y ⟨rfl, hx⟩; replace HU := Lib.hid (HU.out.trans hx); replace HB := Lib.hid (HB.out.up hx); clear hx; (try clear cw); have cw := cell_up HU.out HC0.out; (try clear bf b4 b5); have bf := HB.out.frozen; have b4 := HB.out.i4; have b5 := HB.out.i5))
    have HU2 := Lib.hid (((HU.out.but g).setCell 4 none (.int .i64 q)).setCell 5 none (.int .i64 1))
    have HB2 := Lib.hid (set_heap (o := 5) (set_heap (o := 4) (HB.out) (.int .i64 q)) (.int .i64 1))
    rw [← HE.out]
    go_end0
    exact ⟨rfl, HU2.out, HB2.out⟩
  · have HE := HY.out
    simp (config := {decide := true}) only [if_true, if_false, or_true, true_or, or_self] at HE
    have HE := Lib.hid HE
    clear HY
    go_enter Tryz.func66, Tryz.ntmps66
    go_wp2_with (first
    | (go_at_call 91; refine (HTL.out _).mono ?_; rintro e y ⟨rfl, hx⟩; replace HU := Lib.hid (HU.out.trans hx); replace HB := Lib.hid (HB.out.up hx); clear hx; (try clear cw); have cw := cell_up HU.out HC0.out; (try clear bf b6 b7 b8 b9 b10); have bf := HB.out.frozen; have b6 := HB.out.i6; have b7 := HB.out.i7; have b8 := HB.out.i8; have b9 := HB.out.i9; have b10 := HB.out.i10)
    | (go_at_call 92; refine (HA.out _ HU.out).mono ?_; rintro e y ⟨ev, rfl, hx⟩; replace HU := Lib.hid (HU.out.trans hx); replace HB := Lib.hid (HB.out.up hx); clear hx; (try clear cw); have cw := cell_up HU.out HC0.out; (try clear bf b6 b7 b8 b9 b10); have bf := HB.out.frozen; have b6 := HB.out.i6; have b7 := HB.out.i7; have b8 := HB.out.i8; have b9 := HB.out.i9; have b10 := HB.out.i10)
    | (go_at_call 93; refine (HF.out _ HU.out).mono ?_; rintro e y ⟨rfl, hx⟩; replace HU := Lib.hid (HU.out.trans hx); replace HB := Lib.hid (HB.out.up hx); clear hx; (try clear cw); have cw := cell_up HU.out HC0.out; (try clear bf b6 b7 b8 b9 b10); have bf := HB.out.frozen; have b6 := HB.out.i6; have b7 := HB.out.i7; have b8 := HB.out.i8; have b9 := HB.out.i9; have b10 := HB.out.i10)
    | (go_at_call 65; refine (HN.out _).mono ?_; rintro e y ⟨rfl, rfl⟩)
    | (go_at_call 94; refine (HT.out _ HU.out).mono ?_; rintro e y ⟨rfl, hx⟩; replace HU := Lib.hid (HU.out.trans hx); replace HB := Lib.hid (HB.out.up hx); clear hx; (try clear cw); have cw := cell_up HU.out HC0.out; (try clear bf b6 b7 b8 b9 b10); have bf := HB.out.frozen; have b6 := HB.out.i6; have b7 := HB.out.i7; have b8 := HB.out.i8; have b9 := HB.out.i9; have b10 := HB.out.i10))
    have HU2 := Lib.hid ((((((HU.out.but g).setCell 6 none (.int .i64 t1)).setCell 7 none (.int .i64 t2)).setCell 8 none (.int .i64 t3)).setCell 9 none (.int .i64 t4)).setCell 10 none (.int .i64 t5))
    have HB2 := Lib.hid (set_heap (o := 10) (set_heap (o := 9) (set_heap (o := 8) (set_heap (o := 7) (set_heap (o := 6) (HB.out) (.int .i64 t1)) (.int .i64 t2)) (.int .i64 t3)) (.int .i64 t4)) (.int .i64 t5))
    rw [← HE.out]
    go_end0
    exact ⟨rfl, HU2.out, HB2.out⟩
end Go.Proofs.YtlglfdhiopnglaaGreatDoor
