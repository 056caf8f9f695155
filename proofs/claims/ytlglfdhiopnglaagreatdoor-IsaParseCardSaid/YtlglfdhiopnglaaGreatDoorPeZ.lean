/-
  isa: wellFormed. Printed by mkPeZ.py.
-/
import Derived.Test.YtlglfdhiopnglaaGreatDoorPeY
namespace Go.Proofs.YtlglfdhiopnglaaGreatDoor
open Go.ChangeShapes Go.WideShapes Go.ChangeAt Go.RowKit
set_option linter.unusedVariables false
set_option linter.unusedSimpArgs false
set_option maxRecDepth 100000

def eqI (u x : Ins) : Bool := decide (u.1 = x.1 ∧ u.2.1 = x.2.1 ∧ u.2.2.1 = x.2.2.1 ∧ u.2.2.2.1 = x.2.2.2.1 ∧ u.2.2.2.2.1.1 = x.2.2.2.2.1.1 ∧ u.2.2.2.2.1.2 = x.2.2.2.2.1.2 ∧ u.2.2.2.2.2.1 = x.2.2.2.2.2.1 ∧ u.2.2.2.2.2.2.1 = x.2.2.2.2.2.2.1 ∧ u.2.2.2.2.2.2.2.1 = x.2.2.2.2.2.2.2.1 ∧ u.2.2.2.2.2.2.2.2.1 = x.2.2.2.2.2.2.2.2.1 ∧ u.2.2.2.2.2.2.2.2.2 = x.2.2.2.2.2.2.2.2.2)
/-- The rest of wellFormed: the operands to come, what is kept. -/
def wfG (x : Ins) : List Int → Ins → Bool
  | [], u => eqI u x
  | k :: ks, u => if fitsB x k then wfG x ks (keepF u x k) else false
def wfB (x : Ins) : Bool := knownB x.1 && wfG x (opsF x) (x.1, 0, 0, 0, (0, 0), 0, 0, 0, 0, 0)
theorem wfG_cons (x : Ins) (k : Int) (ks : List Int) (u : Ins) : wfG x (k :: ks) u = if fitsB x k then wfG x ks (keepF u x k) else false := rfl
theorem opsF_len (x : Ins) : (opsF x).length ≤ 5 := by
  refine Nat.le_trans (List.length_filter_le _ _) ?_
  by_cases h : x.1.toNat < 17
  · exact Nat.le_of_eq (tabF_len _ h)
  · unfold tabF
    rw [List.getD_eq_getElem?_getD, List.getElem?_eq_none (by show 17 ≤ x.1.toNat; omega)]
    decide
theorem own_but {w w' : World} {B n k g : Nat} {e : TypeId} {v : Value} {xs : List Value} (h : w.ownsRow B e k v n xs) (u : UpBut g w w') (hg : g < B) : w'.ownsRow B e k v n xs := by
  refine ⟨h.1, ?_⟩
  rcases h.2 with h0 | ⟨b, cap, cur, hv, hb, hr, ht⟩
  · exact .inl h0
  · exact .inr ⟨b, cap, cur, hv, hb, (u.block b (Array.getElem?_eq_some_iff.1 hr).1 (by omega)).trans hr, ht⟩
theorem BoxI.but {w w' : World} {g b : Nat} {u : Ins} (h : BoxI w g u) (hu : UpBut b w w') (hne : g ≠ b) : BoxI w' g u := (hu.block g h.lt hne).trans h
theorem BoxI.new (w : World) (u : Ins) {g : Nat} (hg : g = w.heap.size) : BoxI (w.alloc (.cells #[.int .i64 u.1, .int .i64 u.2.1, .int .i64 u.2.2.1, .int .i64 u.2.2.2.1, .int .i64 u.2.2.2.2.1.1, .int .i64 u.2.2.2.2.1.2, .int .i64 u.2.2.2.2.2.1, .int .i64 u.2.2.2.2.2.2.1, .int .i64 u.2.2.2.2.2.2.2.1, .int .i64 u.2.2.2.2.2.2.2.2.1, .int .i64 u.2.2.2.2.2.2.2.2.2] 42)) g u := hg ▸ heap_alloc_new w _
theorem BoxI.all {w : World} {g : Nat} {op A b c n d kd bi fr ro ov : Int} (h : BoxI w g (op, A, b, c, (n, d), kd, bi, fr, ro, ov)) : w.cell? ⟨g, 0, none⟩ = some (.int .i64 op) ∧ w.cell? ⟨g, 1, none⟩ = some (.int .i64 A) ∧ w.cell? ⟨g, 2, none⟩ = some (.int .i64 b) ∧ w.cell? ⟨g, 3, none⟩ = some (.int .i64 c) ∧ w.cell? ⟨g, 4, none⟩ = some (.int .i64 n) ∧ w.cell? ⟨g, 5, none⟩ = some (.int .i64 d) ∧ w.cell? ⟨g, 6, none⟩ = some (.int .i64 kd) ∧ w.cell? ⟨g, 7, none⟩ = some (.int .i64 bi) ∧ w.cell? ⟨g, 8, none⟩ = some (.int .i64 fr) ∧ w.cell? ⟨g, 9, none⟩ = some (.int .i64 ro) ∧ w.cell? ⟨g, 10, none⟩ = some (.int .i64 ov) :=
  ⟨h.cell 0 (by omega), h.cell 1 (by omega), h.cell 2 (by omega), h.cell 3 (by omega), h.cell 4 (by omega), h.cell 5 (by omega), h.cell 6 (by omega), h.cell 7 (by omega), h.cell 8 (by omega), h.cell 9 (by omega), h.cell 10 (by omega)⟩

set_option maxHeartbeats 8000000 in
theorem isa_wellFormed (x : Ins) (hx : InR x) (w : World) (ht : ITab w) :
    Calls Tryz.prog 30 #[insV x] w fun e' w' => e' = .returned (.bool (wfB x)) ∧ Up w w' := by
  obtain ⟨r, hr⟩ : ∃ r, wfB x = r := ⟨_, rfl⟩
  rw [hr]
  obtain ⟨kn, hkn⟩ : ∃ kn, knownB x.1 = kn := ⟨_, rfl⟩
  obtain ⟨ls, hls⟩ : ∃ ls, opsF x = ls := ⟨_, rfl⟩
  have hl5 : ls.length ≤ 5 := hls ▸ opsF_len x
  have HK := Lib.hid hkn
  have HR : Hid ((kn && wfG x ls (x.1, 0, 0, 0, (0, 0), 0, 0, 0, 0, 0)) = r) := Lib.hid (by rw [← hr, wfB, hkn, hls])
  have HO : Hid (∀ w, ITab w → kn = true → Calls Tryz.prog 51 #[insV x] w fun e' w' => ∃ v, e' = .returned v ∧ Up w w' ∧ w'.ownsRow w.heap.size 3 1 v ls.length (intV ls)) := Lib.hid (fun w h hk => hls ▸ isa_operands x (hkn.trans hk) w h)
  have HF : Hid (∀ k w, Calls Tryz.prog 52 #[insV x, .int .i64 k] w fun e' w' => e' = .returned (.bool (fitsB x k)) ∧ Up w w') := Lib.hid (fun k w => isa_fits x k hx _ rfl w)
  have HKE : Hid (∀ u k g w, BoxI w g u → Calls Tryz.prog 53 #[.pointer (some ⟨g, 0, none⟩), insV x, .int .i64 k] w fun e w' => e = .returned (.tuple #[]) ∧ BoxI w' g (keepF u x k) ∧ UpBut g w w') := Lib.hid (fun u k g w h => isa_keep u x k g w h)
  have HB0 : Hid (BoxI (w.alloc (.cells #[.int .i64 x.1, .int .i64 x.2.1, .int .i64 x.2.2.1, .int .i64 x.2.2.2.1, .int .i64 x.2.2.2.2.1.1, .int .i64 x.2.2.2.2.1.2, .int .i64 x.2.2.2.2.2.1, .int .i64 x.2.2.2.2.2.2.1, .int .i64 x.2.2.2.2.2.2.2.1, .int .i64 x.2.2.2.2.2.2.2.2.1, .int .i64 x.2.2.2.2.2.2.2.2.2] 42)) w.heap.size x) := Lib.hid (BoxI.new w x rfl)
  have HT := Lib.hid ht
  obtain ⟨op, A, b, c, ⟨n, d⟩, kd, bi, fr, ro, ov⟩ := x
  dsimp only [insV] at HO HF HKE HK HR HB0
  obtain ⟨nl, hnl⟩ : ∃ nl, ls.length = nl := ⟨_, rfl⟩
  rw [hnl] at HO hl5
  have hl5I : (nl : Int) ≤ 5 := by omega
  have HNL := Lib.hid hnl
  clear hr hkn hls hx ht hnl
  cases kn
  · have HG : Hid (false = r) := Lib.hid (by rw [← HR.out]; rfl)
    go_enter Tryz.func30, Tryz.ntmps30
    go_wp2_with (go_at_call 36; refine (isa_known _ _ HK.out _).mono ?_; rintro e' y ⟨rfl, rfl⟩)
    go_ret
    exact ⟨ret_bool HG.out, (Up.refl _).alloc _⟩
  · go_enter Tryz.func30, Tryz.ntmps30
    go_wp2_with (first | (go_at_call 36; refine (isa_known _ _ HK.out _).mono ?_; rintro e' y ⟨rfl, rfl⟩))
    refine (HO.out _ (HT.out.up (((Up.refl w).alloc _).alloc _)) (by first | rfl | trivial)).mono ?_
    rintro e' y ⟨sv, rfl, hy, hrow⟩
    have hU2 : Up w ((w.alloc (.cells #[.int .i64 op, .int .i64 A, .int .i64 b, .int .i64 c, .int .i64 n, .int .i64 d, .int .i64 kd, .int .i64 bi, .int .i64 fr, .int .i64 ro, .int .i64 ov] 42)).alloc (.cells #[.int .i64 op, .int .i64 0, .int .i64 0, .int .i64 0, .int .i64 0, .int .i64 0, .int .i64 0, .int .i64 0, .int .i64 0, .int .i64 0, .int .i64 0] 42)) := ((Up.refl w).alloc _).alloc _
    have HUY := Lib.hid (hU2.trans hy)
    have HB1 : Hid (BoxI y w.heap.size (op, A, b, c, (n, d), kd, bi, fr, ro, ov)) := Lib.hid ((HB0.out.up ((Up.refl _).alloc _)).up hy)
    have HB2 : Hid (BoxI y (w.heap.size + 1) (op, 0, 0, 0, (0, 0), 0, 0, 0, 0, 0)) := Lib.hid ((BoxI.new _ (op, 0, 0, 0, (0, 0), 0, 0, 0, 0, 0) (by simp)).up hy)
    have HROW : Hid (y.ownsRow (w.heap.size + 2) 3 1 sv nl (intV ls)) := Lib.hid (own_from hrow _ (by simp))
    obtain ⟨sa, sc, rfl⟩ := own_slice hrow
    clear hy hrow hU2 HB0
    go_wp2
    go_loopw [16] (fun iv wr => ∃ (k : Nat) (u : Ins), k ≤ nl ∧ iv = .int .i64 k ∧ wfG (op, A, b, c, (n, d), kd, bi, fr, ro, ov) (ls.drop k) u = r ∧ BoxI wr (w.heap.size + 1) u ∧ BoxI wr w.heap.size (op, A, b, c, (n, d), kd, bi, fr, ro, ov) ∧ wr.ownsRow (w.heap.size + 2) 3 1 (.slice sa nl sc) nl (intV ls) ∧ Up w wr) (fun iv _ => nl - (intOf iv).toNat)
    case atStart => exact ⟨0, _, by omega, rfl, by rw [List.drop_zero]; exact HR.out, HB2.out, HB1.out, HROW.out, HUY.out⟩
    case round =>
      rename World => wr
      obtain ⟨k, u, hk, rfl, hf, hb2, hb1, hrow, hU⟩ := hrel
      have HF2 := Lib.hid hf
      have HB2 := Lib.hid hb2
      have HB1 := Lib.hid hb1
      have HROW := Lib.hid hrow
      have HU := Lib.hid hU
      obtain ⟨x0, x1, x2, x3, x4, x5, x6, x7, x8, x9, x10⟩ := hb1.all
      by_cases hlt : k < nl
      · have hltI : (k : Int) < nl := by omega
        obtain ⟨t, htt⟩ : ∃ t, ls.getD k 0 = t := ⟨_, rfl⟩
        obtain ⟨gs, cs, hvs, hgB, hgs2, _, _, hcell⟩ := own_get hrow (by omega)
        cases hvs
        have k0 : wr.cell? ⟨gs, k, none⟩ = some (.int .i64 t) := hcell k _ (by rw [intV_get ls k (by rw [HNL.out]; exact hlt), htt])
        have hd := drop_int HNL.out hlt htt
        obtain ⟨ft, hft⟩ : ∃ ft, fitsB (op, A, b, c, (n, d), kd, bi, fr, ro, ov) t = ft := ⟨_, rfl⟩
        have HFT : Hid (∀ w, Calls Tryz.prog 52 #[.agg #[.int .i64 op, .int .i64 A, .int .i64 b, .int .i64 c, .int .i64 n, .int .i64 d, .int .i64 kd, .int .i64 bi, .int .i64 fr, .int .i64 ro, .int .i64 ov], .int .i64 t] w fun e' w' => e' = .returned (.bool ft) ∧ Up w w') := Lib.hid (fun w => hft ▸ HF.out t w)
        have HG : Hid ((if ft then wfG (op, A, b, c, (n, d), kd, bi, fr, ro, ov) (ls.drop (k + 1)) (keepF u (op, A, b, c, (n, d), kd, bi, fr, ro, ov) t) else false) = r) := Lib.hid (by rw [hd, wfG_cons, hft] at hf; exact hf)
        clear hf hb2 hb1 hrow hU hcell hd htt hft
        go_wp2_with fail
        refine (HFT.out _).mono ?_
        rintro e y2 ⟨rfl, hy2⟩
        have HB2y := Lib.hid (HB2.out.up hy2)
        have HB1y := Lib.hid (HB1.out.up hy2)
        have HROWy := Lib.hid (own_up' HROW.out hy2)
        have HUy := Lib.hid (HU.out.trans hy2)
        clear x0 x1 x2 x3 x4 x5 x6 x7 x8 x9 x10 k0 hy2 HB2 HB1 HROW HU HFT
        obtain ⟨x0, x1, x2, x3, x4, x5, x6, x7, x8, x9, x10⟩ := HB1y.out.all
        cases ft
        · have HG2 : Hid (false = r) := Lib.hid HG.out
          go_wp2
          go_ret
          exact ⟨ret_bool HG2.out, HUy.out⟩
        · have HG2 : Hid (wfG (op, A, b, c, (n, d), kd, bi, fr, ro, ov) (ls.drop (k + 1)) (keepF u (op, A, b, c, (n, d), kd, bi, fr, ro, ov) t) = r) := Lib.hid HG.out
          go_wp2_with fail
          refine (HKE.out u t _ _ HB2y.out).mono ?_
          rintro e y3 ⟨rfl, hb3, hbut⟩
          have HB3 := Lib.hid hb3
          have HB13 := Lib.hid (HB1y.out.but hbut (by show w.heap.size ≠ w.heap.size + 1; omega))
          have HROW3 := Lib.hid (own_but HROWy.out hbut (by show w.heap.size + 1 < w.heap.size + 2; omega))
          have HU3 := Lib.hid (UpBut.up HUy.out (by show w.heap.size ≤ w.heap.size + 1; omega) hbut)
          clear hb3 hbut x0 x1 x2 x3 x4 x5 x6 x7 x8 x9 x10
          go_wp2
          go_roundw
          case rel => exact ⟨k + 1, _, by omega, by go_num, HG2.out, HB3.out, HB13.out, HROW3.out, HU3.out⟩
          case measure => simp [intOf]; omega
      · obtain rfl : k = nl := by omega
        have hfe : eqI u (op, A, b, c, (n, d), kd, bi, fr, ro, ov) = r := by
          rw [List.drop_eq_nil_of_le (by rw [HNL.out]; omega)] at hf; exact hf
        obtain ⟨u0, u1, u2', u3, ⟨u4', u5'⟩, u6, u7, u8, u9, u10⟩ := u
        obtain ⟨y0, y1, y2, y3, y4, y5, y6, y7, y8, y9, y10⟩ := hb2.all
        have HG := Lib.hid hfe
        clear hf hfe hb2 hb1 hrow hU
        go_wp2
        all_goals try simp only [Bool.not_eq_false', Bool.not_eq_true', bne_iff_ne, ne_eq, bne_eq_false_iff_eq, beq_iff_eq, beq_eq_false_iff_ne, decide_eq_true_eq, decide_eq_false_iff_not] at *
        all_goals
          go_ret
          exact ⟨ret_bool (by rw [← HG.out, eqI, Bool.eq_iff_iff]; simp [*]), HU.out⟩

end Go.Proofs.YtlglfdhiopnglaaGreatDoor

