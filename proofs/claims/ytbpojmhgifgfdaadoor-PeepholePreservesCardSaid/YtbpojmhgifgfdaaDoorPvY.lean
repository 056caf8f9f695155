/-
  The reference 49: Run. Printed by mkPvY.py.
-/
import Derived.Test.YtbpojmhgifgfdaaDoorPvX
namespace Go.Proofs.YtbpojmhgifgfdaaDoor
open Go.ChangeShapes Go.WideShapes Go.ChangeAt Go.RowKit
set_option linter.unusedVariables false
set_option linter.unusedSimpArgs false
set_option maxRecDepth 100000

/-- A block that is none of the two boxes of a run. -/
def Off (B : Nat) (v : Value) : Prop := ∀ g, blk v = some g → g ≠ B ∧ g ≠ B + 1
theorem Off.of {B C : Nat} {o v : Value} (h : FO C o v) (ho : Off B o) (hC : B + 2 ≤ C) : Off B v := fun g hg => (h g hg).elim (ho g) (fun h => ⟨by omega, by omega⟩)
structure MSt (wr : World) (B : Nat) (x r m : Value) (mn : Nat) (s : St) : Prop where
  X : IntsAt wr x s.X
  R : ValsAt wr r s.R
  M : ValsAt wr m s.M
  C : CapOK m
  l1 : s.X.length = 256
  l2 : s.R.length = 256
  l3 : s.M.length = mn
  G : Good s
  ox : Off B x
  or : Off B r
  om : 0 < mn → Off B m
theorem MSt.up {wr wr' : World} {B mn : Nat} {x r m : Value} {s : St} (h : MSt wr B x r m mn s) (u : Up wr wr') : MSt wr' B x r m mn s := { h with X := h.X.up u, R := h.R.up u, M := h.M.up u }
theorem MSt.set {wr : World} {B mn b : Nat} {x r m : Value} {s : St} (h : MSt wr B x r m mn s) (hb : b = B ∨ b = B + 1) (o : Nat) (u : Value) : MSt (wr.setCell ⟨b, o, none⟩ u) B x r m mn s := by
  have hne : ∀ v, Off B v → ∀ g, blk v = some g → g ≠ b := fun v hv g hg => by
    have := hv g hg
    rcases hb with rfl | rfl
    · exact this.1
    · exact this.2
  refine { h with X := h.X.set (hne _ h.ox) o u, R := h.R.set (hne _ h.or) o u, M := ?_ }
  by_cases h0 : 0 < mn
  · exact h.M.set (hne _ (h.om h0)) o u
  · obtain ⟨⟨a, cap, hv, e0, _⟩, hmx⟩ := h.M
    exact ⟨⟨a, cap, hv, e0, fun x _ hl => absurd hl (by rw [h.l3]; omega)⟩, hmx⟩
theorem MSt.next {wr z : World} {B mn C : Nat} {x r m x' r' m' : Value} {s s' : St} (h : MSt wr B x r m mn s) (hs : StR C x r m z x' r' m' s') (hC : B + 2 ≤ C) (l1 : s'.X.length = 256) (l2 : s'.R.length = 256) (l3 : s'.M.length = mn) (G : Good s') : MSt z B x' r' m' mn s' := by
  obtain ⟨g1, g2, g3, g4, g5, g6, g7⟩ := hs
  exact ⟨g1, g2, g3, g4, l1, l2, l3, G, Off.of g5 h.ox hC, Off.of g6 h.or hC, fun h0 => Off.of g7 (h.om h0) hC⟩
def liftR (q : Nat) (r : St × Nat × Int) : St × Nat × Int := (r.1, if r.2.2 = 0 then r.2.1 + q else 0, r.2.2)
theorem run_zero {l : List Ins} {ts : List Typ} (f pc : Nat) (s : St) (h : (runF l ts f pc s).2.2 ≠ 0) : (runF l ts f pc s).2.1 = 0 := by
  cases f with
  | zero => rfl
  | succ f =>
    rw [runF_succ] at h ⊢
    split
    · rfl
    · rename_i hl
      rw [if_neg hl] at h
      split
      · rename_i hx; rw [hx] at h; exact absurd rfl h
      · rfl
      · rename_i hx; rw [hx] at h; exact if_neg h
theorem lift_zero (l : List Ins) (ts : List Typ) (f pc : Nat) (s : St) : runF l ts f pc s = liftR 0 (runF l ts f pc s) := by
  have := run_zero (l := l) (ts := ts) f pc s
  generalize runF l ts f pc s = r at *
  obtain ⟨s, n, e⟩ := r
  unfold liftR
  dsimp only at *
  by_cases h : e = 0
  · rw [if_pos h]; rfl
  · rw [if_neg h, this h]
theorem lift_succ (q : Nat) (r : St × Nat × Int) : liftR q (r.1, (if r.2.2 = 0 then r.2.1 + 1 else 0), r.2.2) = liftR (q + 1) r := by
  unfold liftR
  dsimp only
  by_cases h : r.2.2 = 0
  · rw [if_pos h, if_pos h, if_pos h]; congr 2; omega
  · rw [if_neg h, if_neg h]
/-- What a run has come to. -/
def RunI (l : List Ins) (ts : List Typ) (f : Nat) (res : St × Nat × Int) (q pc : Nat) (s : St) (h : Bool) : Prop := if h then res = (s, q, 0) else res = liftR q (runF l ts (f - q) pc s)
theorem RunI.off {l : List Ins} {ts : List Typ} {f : Nat} {res : St × Nat × Int} {q pc : Nat} {s : St} (h : RunI l ts f res q pc s false) (hq : q < f) (hl : l.length ≤ pc) : res = (s, 0, 25) := by
  have h : res = liftR q (runF l ts (f - q) pc s) := h
  obtain ⟨k, hk⟩ : ∃ k, f - q = k + 1 := ⟨f - q - 1, by omega⟩
  rw [h, hk, runF_succ, if_pos hl]; rfl
theorem RunI.fuel {l : List Ins} {ts : List Typ} {f : Nat} {res : St × Nat × Int} {pc : Nat} {s : St} (h : RunI l ts f res f pc s false) : res = (s, 0, 14) := by
  have h : res = liftR f (runF l ts (f - f) pc s) := h
  rw [h, Nat.sub_self]; rfl
theorem RunI.stop {l : List Ins} {ts : List Typ} {f : Nat} {res : St × Nat × Int} {q pc : Nat} {s : St} (h : RunI l ts f res q pc s false) (hq : q < f) (hl : pc < l.length) (hx : exF ts (l.getD pc i0) s = .stop) : RunI l ts f res (q + 1) pc s true := by
  have h : res = liftR q (runF l ts (f - q) pc s) := h
  show res = (s, q + 1, 0)
  obtain ⟨k, hk⟩ : ∃ k, f - q = k + 1 := ⟨f - q - 1, by omega⟩
  rw [h, hk, runF_succ, if_neg (by omega), hx]
  show (s, 1 + q, (0 : Int)) = (s, q + 1, 0)
  rw [Nat.add_comm]
theorem RunI.bad {l : List Ins} {ts : List Typ} {f : Nat} {res : St × Nat × Int} {q pc : Nat} {s : St} {e : Int} (h : RunI l ts f res q pc s false) (hq : q < f) (hl : pc < l.length) (hx : exF ts (l.getD pc i0) s = .bad e) (he : e ≠ 0) : res = (s, 0, e) := by
  have h : res = liftR q (runF l ts (f - q) pc s) := h
  obtain ⟨k, hk⟩ : ∃ k, f - q = k + 1 := ⟨f - q - 1, by omega⟩
  rw [h, hk, runF_succ, if_neg (by omega), hx]
  show (s, (if e = 0 then 0 + q else 0), e) = (s, 0, e)
  rw [if_neg he]
theorem RunI.go {l : List Ins} {ts : List Typ} {f : Nat} {res : St × Nat × Int} {q pc : Nat} {s s' : St} {j : Bool} (h : RunI l ts f res q pc s false) (hq : q < f) (hl : pc < l.length) (hx : exF ts (l.getD pc i0) s = .go j s') : RunI l ts f res (q + 1) (if j then xA (l.getD pc i0) else pc + 1) s' false := by
  have h : res = liftR q (runF l ts (f - q) pc s) := h
  show res = liftR (q + 1) (runF l ts (f - (q + 1)) _ s')
  obtain ⟨k, hk⟩ : ∃ k, f - q = k + 1 := ⟨f - q - 1, by omega⟩
  rw [h, hk, runF_succ, if_neg (by omega), hx, show f - (q + 1) = k by omega]
  exact lift_succ q _
/-- What Run returns. -/
def RunPost (w : World) (ca ta : Option Addr) (cn cc tn tc mn : Nat) (res : St × Nat × Int) (e : Ending) (w' : World) : Prop :=
  ∃ (pc : Nat) (xa : Option Addr) (xc : Nat) (ra : Option Addr) (rc : Nat) (ma : Option Addr) (mc : Nat) (h : Bool), e = .returned (.tuple #[.agg #[.slice ca cn cc, .slice ta tn tc, .int .i64 (pc : Int), .slice xa 256 xc, .slice ra 256 rc, .slice ma mn mc, .bool h], .int .i64 (res.2.1 : Int), .int .i64 res.2.2]) ∧ Up w w' ∧ IntsAt w' (.slice xa 256 xc) res.1.X ∧ ValsAt w' (.slice ra 256 rc) res.1.R ∧ ValsAt w' (.slice ma mn mc) res.1.M
theorem exF_bad0 {ts : List Typ} {x : Ins} {s : St} {e : Int} (h : exF ts x s = .bad e) : e ≠ 0 := fun h0 => run_ends.exF_bad (h0 ▸ h)

set_option maxHeartbeats 8000000 in
theorem r49_Run (ca ta xa0 ra0 ma0 : Option Addr) (cn cc tn tc rc0 mn mc0 xc0 : Nat) (l : List Ins) (ts : List Typ) (s0 : St) (w : World) (hc : InsAt w (.slice ca cn cc) l) (hL : l.length = cn) (ht : TypAt w (.slice ta tn tc) ts) (hT : ts.length = tn) (hM : MSt w w.heap.size (.slice xa0 256 xc0) (.slice ra0 256 rc0) (.slice ma0 mn mc0) mn s0) (b1 : cn ≤ 100000) (b2 : tn ≤ 100000) (b3 : mn ≤ 100000) (hv : ValidB l ts mn) (f : Nat) (hf : f ≤ 3000) (res : St × Nat × Int) (hres : runF l ts f 0 s0 = res) :
    Calls Tryd.prog 21 #[.agg #[.slice ca cn cc, .slice ta tn tc, .int .i64 0, .slice xa0 256 xc0, .slice ra0 256 rc0, .slice ma0 mn mc0, .bool false], .int .i64 f] w (RunPost w ca ta cn cc tn tc mn res) := by
  have hfI : (f : Int) ≤ 3000 := by omega
  have HC := Lib.hid hc
  have HT := Lib.hid ht
  have HL := Lib.hid hL
  have HTL := Lib.hid hT
  have HV := Lib.hid hv
  have HRES := Lib.hid hres
  have HU0 : Hid (Up w ((w.alloc (.cells #[.slice ca cn cc, .slice ta tn tc, .int .i64 0, .slice xa0 256 xc0, .slice ra0 256 rc0, .slice ma0 mn mc0, .bool false] 50)).alloc (.cells #[.slice none 0 0, .slice none 0 0, .int .i64 0, .slice none 0 0, .slice none 0 0, .slice none 0 0, .bool false] 50))) := Lib.hid (((Up.refl w).alloc _).alloc _)
  have HB0 : Hid (BoxC ((w.alloc (.cells #[.slice ca cn cc, .slice ta tn tc, .int .i64 0, .slice xa0 256 xc0, .slice ra0 256 rc0, .slice ma0 mn mc0, .bool false] 50)).alloc (.cells #[.slice none 0 0, .slice none 0 0, .int .i64 0, .slice none 0 0, .slice none 0 0, .slice none 0 0, .bool false] 50)) w.heap.size 50 #[.slice ca cn cc, .slice ta tn tc, .int .i64 ((0 : Nat) : Int), .slice xa0 256 xc0, .slice ra0 256 rc0, .slice ma0 mn mc0, .bool false]) := Lib.hid ((BoxC.new w _ _).up ((Up.refl _).alloc _))
  have HB1 : Hid (BoxC ((w.alloc (.cells #[.slice ca cn cc, .slice ta tn tc, .int .i64 0, .slice xa0 256 xc0, .slice ra0 256 rc0, .slice ma0 mn mc0, .bool false] 50)).alloc (.cells #[.slice none 0 0, .slice none 0 0, .int .i64 0, .slice none 0 0, .slice none 0 0, .slice none 0 0, .bool false] 50)) (w.heap.size + 1) 50 #[.slice none 0 0, .slice none 0 0, .int .i64 0, .slice none 0 0, .slice none 0 0, .slice none 0 0, .bool false]) := Lib.hid (BoxC.new2 w _ _ _)
  have HM0 := Lib.hid (hM.up HU0.out)
  clear hc ht hL hT hv hres hM
  go_enter Tryd.func21, Tryd.ntmps21
  go_wp2
  go_loopw [7] (fun nv wr => ∃ (q pc : Nat) (s : St) (h : Bool) (xa : Option Addr) (xc : Nat) (ra : Option Addr) (rc : Nat) (ma : Option Addr) (mc : Nat), nv = .int .i64 q ∧ q ≤ f ∧ RunI l ts f res q pc s h ∧ BoxC wr w.heap.size 50 #[.slice ca cn cc, .slice ta tn tc, .int .i64 (pc : Int), .slice xa 256 xc, .slice ra 256 rc, .slice ma mn mc, .bool h] ∧ BoxC wr (w.heap.size + 1) 50 #[.slice none 0 0, .slice none 0 0, .int .i64 0, .slice none 0 0, .slice none 0 0, .slice none 0 0, .bool false] ∧ MSt wr w.heap.size (.slice xa 256 xc) (.slice ra 256 rc) (.slice ma mn mc) mn s ∧ Up w wr) (fun nv _ => f - (intOf nv).toNat)
  case atStart => exact ⟨0, 0, s0, false, xa0, xc0, ra0, rc0, ma0, mc0, rfl, by omega, (by rw [← HRES.out]; exact lift_zero l ts f 0 s0), HB0.out, HB1.out, HM0.out, HU0.out⟩
  case round =>
    rename World => wr
    obtain ⟨q, pc, s, h, xa, xc, ra, rc, ma, mc, rfl, hq, hI, hb0, hb1, hm, hu⟩ := hrel
    have HI := Lib.hid hI
    have B0 := Lib.hid hb0
    have B1 := Lib.hid hb1
    have HM := Lib.hid hm
    have HU := Lib.hid hu
    clear hI hb0 hb1 hm hu
    obtain ⟨p0, p1, p2, p3, p4, p5, p6⟩ := B0.out.seven
    obtain ⟨r0, r1, r2, r3, r4, r5, r6⟩ := B1.out.seven
    have pf := B0.out.frozen
    have rf := B1.out.frozen
    have hs0 := B0.out.lt
    have hs1 := B1.out.lt
    cases h
    · by_cases hqf : q = f
      · subst hqf
        have hqq : ((q : Int) == (q : Int)) = true := by simp
        go_wp2
        have HUF := Lib.hid ((((((((HU.out).setCell (p := ⟨w.heap.size + 1, 0, none⟩) (by show w.heap.size ≤ w.heap.size + 1; omega) (.slice ca cn cc)).setCell (p := ⟨w.heap.size + 1, 1, none⟩) (by show w.heap.size ≤ w.heap.size + 1; omega) (.slice ta tn tc)).setCell (p := ⟨w.heap.size + 1, 2, none⟩) (by show w.heap.size ≤ w.heap.size + 1; omega) (.int .i64 (pc : Int))).setCell (p := ⟨w.heap.size + 1, 3, none⟩) (by show w.heap.size ≤ w.heap.size + 1; omega) (.slice xa 256 xc)).setCell (p := ⟨w.heap.size + 1, 4, none⟩) (by show w.heap.size ≤ w.heap.size + 1; omega) (.slice ra 256 rc)).setCell (p := ⟨w.heap.size + 1, 5, none⟩) (by show w.heap.size ≤ w.heap.size + 1; omega) (.slice ma mn mc)).setCell (p := ⟨w.heap.size + 1, 6, none⟩) (by show w.heap.size ≤ w.heap.size + 1; omega) (.bool false))
        have HMF := Lib.hid ((((((((HM.out).set (b := w.heap.size + 1) (.inr rfl) 0 (.slice ca cn cc)).set (b := w.heap.size + 1) (.inr rfl) 1 (.slice ta tn tc)).set (b := w.heap.size + 1) (.inr rfl) 2 (.int .i64 (pc : Int))).set (b := w.heap.size + 1) (.inr rfl) 3 (.slice xa 256 xc)).set (b := w.heap.size + 1) (.inr rfl) 4 (.slice ra 256 rc)).set (b := w.heap.size + 1) (.inr rfl) 5 (.slice ma mn mc)).set (b := w.heap.size + 1) (.inr rfl) 6 (.bool false))
        refine bodyPost_ret (v := .tuple #[.agg #[.slice ca cn cc, .slice ta tn tc, .int .i64 (pc : Int), .slice xa 256 xc, .slice ra 256 rc, .slice ma mn mc, .bool false], .int .i64 0, .int .i64 14]) (by simp [results, Tryd.results21, go_sem, *]) rfl ?_
        obtain hres := HI.out.fuel
        subst hres
        exact ⟨pc, xa, xc, ra, rc, ma, mc, false, rfl, HUF.out, HMF.out.X, HMF.out.R, HMF.out.M⟩
      have hqf2 : q < f := by omega
      have hqI : (q : Int) < f := by omega
      have hqe : ((q : Int) == (f : Int)) = false := by simp; omega
      by_cases hpc : cn ≤ pc
      · go_upto_region 8 with (go_at_call 38; refine (stp_off ca ta ra ma xa cn cc tn tc rc mn mc xc pc wr hpc).mono ?_; rintro e z ⟨rfl, hz⟩; replace B0 := Lib.hid (B0.out.up hz); replace B1 := Lib.hid (B1.out.up hz); replace HU := Lib.hid (HU.out.trans hz); replace HM := Lib.hid (HM.out.up hz); clear hz p0 p1 p2 p3 p4 p5 p6 r0 r1 r2 r3 r4 r5 r6 pf rf; obtain ⟨p0, p1, p2, p3, p4, p5, p6⟩ := B0.out.seven; obtain ⟨r0, r1, r2, r3, r4, r5, r6⟩ := B1.out.seven; have pf := B0.out.frozen; have rf := B1.out.frozen; have hz0 := B0.out.lt; have hz1 := B1.out.lt)
        refine wp_gen (F := fun v => BoxC v z.heap.size 50 #[.slice ca cn cc, .slice ta tn tc, .int .i64 (pc : Int), .slice xa 256 xc, .slice ra 256 rc, .slice ma mn mc, .bool false] ∧ BoxC v w.heap.size 50 #[.slice ca cn cc, .slice ta tn tc, .int .i64 (pc : Int), .slice xa 256 xc, .slice ra 256 rc, .slice ma mn mc, .bool false] ∧ BoxC v (w.heap.size + 1) 50 #[.slice none 0 0, .slice none 0 0, .int .i64 0, .slice none 0 0, .slice none 0 0, .slice none 0 0, .bool false] ∧ MSt v w.heap.size (.slice xa 256 xc) (.slice ra 256 rc) (.slice ma mn mc) mn s ∧ Up w v) ⟨BoxC.new z _ _, B0.out.up ((Up.refl z).alloc _), B1.out.up ((Up.refl z).alloc _), HM.out.up ((Up.refl z).alloc _), HU.out.alloc _⟩ ?_
        rintro v ⟨V2, V0, V1, VM, VU⟩
        have B2 := Lib.hid V2
        replace B0 := Lib.hid V0
        replace B1 := Lib.hid V1
        have HM2 := Lib.hid VM
        replace HU := Lib.hid VU
        clear V2 V0 V1 VM VU p0 p1 p2 p3 p4 p5 p6 r0 r1 r2 r3 r4 r5 r6 pf rf
        generalize z.heap.size = bz at *
        obtain ⟨p0, p1, p2, p3, p4, p5, p6⟩ := B0.out.seven
        obtain ⟨r0, r1, r2, r3, r4, r5, r6⟩ := B1.out.seven
        obtain ⟨n0, n1, n2, n3, n4, n5, n6⟩ := B2.out.seven
        have pf := B0.out.frozen
        have rf := B1.out.frozen
        go_wp2
        have HUF := Lib.hid ((((((((HU.out).setCell (p := ⟨w.heap.size + 1, 0, none⟩) (by show w.heap.size ≤ w.heap.size + 1; omega) (.slice ca cn cc)).setCell (p := ⟨w.heap.size + 1, 1, none⟩) (by show w.heap.size ≤ w.heap.size + 1; omega) (.slice ta tn tc)).setCell (p := ⟨w.heap.size + 1, 2, none⟩) (by show w.heap.size ≤ w.heap.size + 1; omega) (.int .i64 (pc : Int))).setCell (p := ⟨w.heap.size + 1, 3, none⟩) (by show w.heap.size ≤ w.heap.size + 1; omega) (.slice xa 256 xc)).setCell (p := ⟨w.heap.size + 1, 4, none⟩) (by show w.heap.size ≤ w.heap.size + 1; omega) (.slice ra 256 rc)).setCell (p := ⟨w.heap.size + 1, 5, none⟩) (by show w.heap.size ≤ w.heap.size + 1; omega) (.slice ma mn mc)).setCell (p := ⟨w.heap.size + 1, 6, none⟩) (by show w.heap.size ≤ w.heap.size + 1; omega) (.bool false))
        have HMF := Lib.hid ((((((((HM2.out).set (b := w.heap.size + 1) (.inr rfl) 0 (.slice ca cn cc)).set (b := w.heap.size + 1) (.inr rfl) 1 (.slice ta tn tc)).set (b := w.heap.size + 1) (.inr rfl) 2 (.int .i64 (pc : Int))).set (b := w.heap.size + 1) (.inr rfl) 3 (.slice xa 256 xc)).set (b := w.heap.size + 1) (.inr rfl) 4 (.slice ra 256 rc)).set (b := w.heap.size + 1) (.inr rfl) 5 (.slice ma mn mc)).set (b := w.heap.size + 1) (.inr rfl) 6 (.bool false))
        refine bodyPost_ret (v := .tuple #[.agg #[.slice ca cn cc, .slice ta tn tc, .int .i64 (pc : Int), .slice xa 256 xc, .slice ra 256 rc, .slice ma mn mc, .bool false], .int .i64 0, .int .i64 25]) (by simp [results, Tryd.results21, go_sem, *]) rfl ?_
        obtain hres := HI.out.off hqf2 (by rw [HL.out]; exact hpc)
        subst hres
        exact ⟨pc, xa, xc, ra, rc, ma, mc, false, rfl, HUF.out, HMF.out.X, HMF.out.R, HMF.out.M⟩
      have hlt : pc < l.length := by rw [HL.out]; omega
      have HVX : Hid (valB (l.getD pc i0) l.length ts.length mn = true) := Lib.hid (HV.out.2.2.2 _ (getD_mem hlt))
      obtain ⟨ox, hox⟩ : ∃ o, exF ts (l.getD pc i0) s = o := ⟨_, rfl⟩
      have HOX := Lib.hid hox
      clear hox
      cases ox with
      | stop =>
        go_upto_region 8 with (go_at_call 38; refine (step_stop ca ta ra ma xa cn cc tn tc rc mn mc xc pc l ts s wr (HC.out.up HU.out) HL.out (HT.out.up HU.out) HTL.out HM.out.X HM.out.R HM.out.M HM.out.C HM.out.l1 HM.out.l2 HM.out.l3 HM.out.G (by omega) b1 b2 b3 HVX.out HOX.out).mono ?_; rintro e z ⟨xa', xc', ra', rc', ma', mc', rfl, hz, hst⟩; replace B0 := Lib.hid (B0.out.up hz); replace B1 := Lib.hid (B1.out.up hz); replace HU := Lib.hid (HU.out.trans hz); have HMZ := Lib.hid (HM.out.next hst (by omega) HM.out.l1 HM.out.l2 HM.out.l3 HM.out.G); clear hst; clear hz p0 p1 p2 p3 p4 p5 p6 r0 r1 r2 r3 r4 r5 r6 pf rf; obtain ⟨p0, p1, p2, p3, p4, p5, p6⟩ := B0.out.seven; obtain ⟨r0, r1, r2, r3, r4, r5, r6⟩ := B1.out.seven; have pf := B0.out.frozen; have rf := B1.out.frozen; have hz0 := B0.out.lt; have hz1 := B1.out.lt)
        refine wp_gen (F := fun v => BoxC v z.heap.size 50 #[.slice ca cn cc, .slice ta tn tc, .int .i64 (pc : Int), .slice xa' 256 xc', .slice ra' 256 rc', .slice ma' mn mc', .bool true] ∧ BoxC v w.heap.size 50 #[.slice ca cn cc, .slice ta tn tc, .int .i64 (pc : Int), .slice xa 256 xc, .slice ra 256 rc, .slice ma mn mc, .bool false] ∧ BoxC v (w.heap.size + 1) 50 #[.slice none 0 0, .slice none 0 0, .int .i64 0, .slice none 0 0, .slice none 0 0, .slice none 0 0, .bool false] ∧ MSt v w.heap.size (.slice xa' 256 xc') (.slice ra' 256 rc') (.slice ma' mn mc') mn s ∧ Up w v) ⟨BoxC.new z _ _, B0.out.up ((Up.refl z).alloc _), B1.out.up ((Up.refl z).alloc _), HMZ.out.up ((Up.refl z).alloc _), HU.out.alloc _⟩ ?_
        rintro v ⟨V2, V0, V1, VM, VU⟩
        have B2 := Lib.hid V2
        replace B0 := Lib.hid V0
        replace B1 := Lib.hid V1
        have HM2 := Lib.hid VM
        replace HU := Lib.hid VU
        clear V2 V0 V1 VM VU p0 p1 p2 p3 p4 p5 p6 r0 r1 r2 r3 r4 r5 r6 pf rf
        generalize z.heap.size = bz at *
        obtain ⟨p0, p1, p2, p3, p4, p5, p6⟩ := B0.out.seven
        obtain ⟨r0, r1, r2, r3, r4, r5, r6⟩ := B1.out.seven
        obtain ⟨n0, n1, n2, n3, n4, n5, n6⟩ := B2.out.seven
        have pf := B0.out.frozen
        have rf := B1.out.frozen
        go_upto_region 11 with (fail)
        refine wp_gen (F := fun v => BoxC v w.heap.size 50 #[.slice ca cn cc, .slice ta tn tc, .int .i64 (pc : Int), .slice xa' 256 xc', .slice ra' 256 rc', .slice ma' mn mc', .bool true] ∧ BoxC v (w.heap.size + 1) 50 #[.slice none 0 0, .slice none 0 0, .int .i64 0, .slice none 0 0, .slice none 0 0, .slice none 0 0, .bool false] ∧ MSt v w.heap.size (.slice xa' 256 xc') (.slice ra' 256 rc') (.slice ma' mn mc') mn s ∧ Up w v) ⟨(B0.out).put7 (.slice ca cn cc) (.slice ta tn tc) (.int .i64 (pc : Int)) (.slice xa' 256 xc') (.slice ra' 256 rc') (.slice ma' mn mc') (.bool true), (((((((B1.out).ne (b := w.heap.size) (by omega) 0 (.slice ca cn cc)).ne (b := w.heap.size) (by omega) 1 (.slice ta tn tc)).ne (b := w.heap.size) (by omega) 2 (.int .i64 (pc : Int))).ne (b := w.heap.size) (by omega) 3 (.slice xa' 256 xc')).ne (b := w.heap.size) (by omega) 4 (.slice ra' 256 rc')).ne (b := w.heap.size) (by omega) 5 (.slice ma' mn mc')).ne (b := w.heap.size) (by omega) 6 (.bool true), (((((((HM2.out).set (b := w.heap.size) (.inl rfl) 0 (.slice ca cn cc)).set (b := w.heap.size) (.inl rfl) 1 (.slice ta tn tc)).set (b := w.heap.size) (.inl rfl) 2 (.int .i64 (pc : Int))).set (b := w.heap.size) (.inl rfl) 3 (.slice xa' 256 xc')).set (b := w.heap.size) (.inl rfl) 4 (.slice ra' 256 rc')).set (b := w.heap.size) (.inl rfl) 5 (.slice ma' mn mc')).set (b := w.heap.size) (.inl rfl) 6 (.bool true), (((((((HU.out).setCell (p := ⟨w.heap.size, 0, none⟩) (Nat.le_refl _) (.slice ca cn cc)).setCell (p := ⟨w.heap.size, 1, none⟩) (Nat.le_refl _) (.slice ta tn tc)).setCell (p := ⟨w.heap.size, 2, none⟩) (Nat.le_refl _) (.int .i64 (pc : Int))).setCell (p := ⟨w.heap.size, 3, none⟩) (Nat.le_refl _) (.slice xa' 256 xc')).setCell (p := ⟨w.heap.size, 4, none⟩) (Nat.le_refl _) (.slice ra' 256 rc')).setCell (p := ⟨w.heap.size, 5, none⟩) (Nat.le_refl _) (.slice ma' mn mc')).setCell (p := ⟨w.heap.size, 6, none⟩) (Nat.le_refl _) (.bool true)⟩ ?_
        rintro v ⟨V0, V1, VM, VU⟩
        replace B0 := Lib.hid V0
        replace B1 := Lib.hid V1
        replace HM2 := Lib.hid VM
        replace HU := Lib.hid VU
        clear V0 V1 VM VU p0 p1 p2 p3 p4 p5 p6 r0 r1 r2 r3 r4 r5 r6 pf rf n0 n1 n2 n3 n4 n5 n6 B2
        go_wp2
        go_roundw
        case rel => exact ⟨q + 1, pc, s, true, xa', xc', ra', rc', ma', mc', by go_num, by omega, HI.out.stop hqf2 hlt HOX.out, B0.out, B1.out, HM2.out, HU.out⟩
        case measure => simp [intOf]; omega
      | bad er =>
        have hne := exF_bad0 HOX.out
        have hne2 : (er != 0) = true := by simpa using hne
        have HNE := Lib.hid hne
        clear hne
        go_upto_region 8 with (go_at_call 38; refine (step_bad ca ta ra ma xa cn cc tn tc rc mn mc xc pc l ts s wr (HC.out.up HU.out) HL.out (HT.out.up HU.out) HTL.out HM.out.X HM.out.R HM.out.M HM.out.C HM.out.l1 HM.out.l2 HM.out.l3 HM.out.G (by omega) b1 b2 b3 HVX.out HOX.out).mono ?_; rintro e z ⟨rfl, hz⟩; replace B0 := Lib.hid (B0.out.up hz); replace B1 := Lib.hid (B1.out.up hz); replace HU := Lib.hid (HU.out.trans hz); replace HM := Lib.hid (HM.out.up hz); clear hz p0 p1 p2 p3 p4 p5 p6 r0 r1 r2 r3 r4 r5 r6 pf rf; obtain ⟨p0, p1, p2, p3, p4, p5, p6⟩ := B0.out.seven; obtain ⟨r0, r1, r2, r3, r4, r5, r6⟩ := B1.out.seven; have pf := B0.out.frozen; have rf := B1.out.frozen; have hz0 := B0.out.lt; have hz1 := B1.out.lt)
        refine wp_gen (F := fun v => BoxC v z.heap.size 50 #[.slice ca cn cc, .slice ta tn tc, .int .i64 (pc : Int), .slice xa 256 xc, .slice ra 256 rc, .slice ma mn mc, .bool false] ∧ BoxC v w.heap.size 50 #[.slice ca cn cc, .slice ta tn tc, .int .i64 (pc : Int), .slice xa 256 xc, .slice ra 256 rc, .slice ma mn mc, .bool false] ∧ BoxC v (w.heap.size + 1) 50 #[.slice none 0 0, .slice none 0 0, .int .i64 0, .slice none 0 0, .slice none 0 0, .slice none 0 0, .bool false] ∧ MSt v w.heap.size (.slice xa 256 xc) (.slice ra 256 rc) (.slice ma mn mc) mn s ∧ Up w v) ⟨BoxC.new z _ _, B0.out.up ((Up.refl z).alloc _), B1.out.up ((Up.refl z).alloc _), HM.out.up ((Up.refl z).alloc _), HU.out.alloc _⟩ ?_
        rintro v ⟨V2, V0, V1, VM, VU⟩
        have B2 := Lib.hid V2
        replace B0 := Lib.hid V0
        replace B1 := Lib.hid V1
        have HM2 := Lib.hid VM
        replace HU := Lib.hid VU
        clear V2 V0 V1 VM VU p0 p1 p2 p3 p4 p5 p6 r0 r1 r2 r3 r4 r5 r6 pf rf
        generalize z.heap.size = bz at *
        obtain ⟨p0, p1, p2, p3, p4, p5, p6⟩ := B0.out.seven
        obtain ⟨r0, r1, r2, r3, r4, r5, r6⟩ := B1.out.seven
        obtain ⟨n0, n1, n2, n3, n4, n5, n6⟩ := B2.out.seven
        have pf := B0.out.frozen
        have rf := B1.out.frozen
        go_wp2
        have HUF := Lib.hid ((((((((HU.out).setCell (p := ⟨w.heap.size + 1, 0, none⟩) (by show w.heap.size ≤ w.heap.size + 1; omega) (.slice ca cn cc)).setCell (p := ⟨w.heap.size + 1, 1, none⟩) (by show w.heap.size ≤ w.heap.size + 1; omega) (.slice ta tn tc)).setCell (p := ⟨w.heap.size + 1, 2, none⟩) (by show w.heap.size ≤ w.heap.size + 1; omega) (.int .i64 (pc : Int))).setCell (p := ⟨w.heap.size + 1, 3, none⟩) (by show w.heap.size ≤ w.heap.size + 1; omega) (.slice xa 256 xc)).setCell (p := ⟨w.heap.size + 1, 4, none⟩) (by show w.heap.size ≤ w.heap.size + 1; omega) (.slice ra 256 rc)).setCell (p := ⟨w.heap.size + 1, 5, none⟩) (by show w.heap.size ≤ w.heap.size + 1; omega) (.slice ma mn mc)).setCell (p := ⟨w.heap.size + 1, 6, none⟩) (by show w.heap.size ≤ w.heap.size + 1; omega) (.bool false))
        have HMF := Lib.hid ((((((((HM2.out).set (b := w.heap.size + 1) (.inr rfl) 0 (.slice ca cn cc)).set (b := w.heap.size + 1) (.inr rfl) 1 (.slice ta tn tc)).set (b := w.heap.size + 1) (.inr rfl) 2 (.int .i64 (pc : Int))).set (b := w.heap.size + 1) (.inr rfl) 3 (.slice xa 256 xc)).set (b := w.heap.size + 1) (.inr rfl) 4 (.slice ra 256 rc)).set (b := w.heap.size + 1) (.inr rfl) 5 (.slice ma mn mc)).set (b := w.heap.size + 1) (.inr rfl) 6 (.bool false))
        refine bodyPost_ret (v := .tuple #[.agg #[.slice ca cn cc, .slice ta tn tc, .int .i64 (pc : Int), .slice xa 256 xc, .slice ra 256 rc, .slice ma mn mc, .bool false], .int .i64 0, .int .i64 er]) (by simp [results, Tryd.results21, go_sem, *]) rfl ?_
        obtain hres := HI.out.bad hqf2 hlt HOX.out HNE.out
        subst hres
        exact ⟨pc, xa, xc, ra, rc, ma, mc, false, rfl, HUF.out, HMF.out.X, HMF.out.R, HMF.out.M⟩
      | go j s' =>
        obtain ⟨np, hnp⟩ : ∃ np, (if j then xA (l.getD pc i0) else pc + 1) = np := ⟨_, rfl⟩
        have HST := Lib.hid (step_go ca ta ra ma xa cn cc tn tc rc mn mc xc pc l ts s wr (HC.out.up HU.out) HL.out (HT.out.up HU.out) HTL.out HM.out.X HM.out.R HM.out.M HM.out.C HM.out.l1 HM.out.l2 HM.out.l3 HM.out.G (by omega) b1 b2 b3 HVX.out HOX.out)
        rw [hnp] at HST
        have HNP := Lib.hid hnp
        have HGS := Lib.hid (keep_one HVX.out HM.out.G HOX.out)
        clear hnp
        go_upto_region 8 with (go_at_call 38; refine (HST.out).mono ?_; rintro e z ⟨xa', xc', ra', rc', ma', mc', rfl, hz, hst, g1, g2, g3⟩; replace B0 := Lib.hid (B0.out.up hz); replace B1 := Lib.hid (B1.out.up hz); replace HU := Lib.hid (HU.out.trans hz); have HMZ := Lib.hid (HM.out.next hst (by omega) g1 g2 g3 HGS.out); clear hst g1 g2 g3; clear hz p0 p1 p2 p3 p4 p5 p6 r0 r1 r2 r3 r4 r5 r6 pf rf; obtain ⟨p0, p1, p2, p3, p4, p5, p6⟩ := B0.out.seven; obtain ⟨r0, r1, r2, r3, r4, r5, r6⟩ := B1.out.seven; have pf := B0.out.frozen; have rf := B1.out.frozen; have hz0 := B0.out.lt; have hz1 := B1.out.lt)
        refine wp_gen (F := fun v => BoxC v z.heap.size 50 #[.slice ca cn cc, .slice ta tn tc, .int .i64 (np : Int), .slice xa' 256 xc', .slice ra' 256 rc', .slice ma' mn mc', .bool false] ∧ BoxC v w.heap.size 50 #[.slice ca cn cc, .slice ta tn tc, .int .i64 (pc : Int), .slice xa 256 xc, .slice ra 256 rc, .slice ma mn mc, .bool false] ∧ BoxC v (w.heap.size + 1) 50 #[.slice none 0 0, .slice none 0 0, .int .i64 0, .slice none 0 0, .slice none 0 0, .slice none 0 0, .bool false] ∧ MSt v w.heap.size (.slice xa' 256 xc') (.slice ra' 256 rc') (.slice ma' mn mc') mn s' ∧ Up w v) ⟨BoxC.new z _ _, B0.out.up ((Up.refl z).alloc _), B1.out.up ((Up.refl z).alloc _), HMZ.out.up ((Up.refl z).alloc _), HU.out.alloc _⟩ ?_
        rintro v ⟨V2, V0, V1, VM, VU⟩
        have B2 := Lib.hid V2
        replace B0 := Lib.hid V0
        replace B1 := Lib.hid V1
        have HM2 := Lib.hid VM
        replace HU := Lib.hid VU
        clear V2 V0 V1 VM VU p0 p1 p2 p3 p4 p5 p6 r0 r1 r2 r3 r4 r5 r6 pf rf
        generalize z.heap.size = bz at *
        obtain ⟨p0, p1, p2, p3, p4, p5, p6⟩ := B0.out.seven
        obtain ⟨r0, r1, r2, r3, r4, r5, r6⟩ := B1.out.seven
        obtain ⟨n0, n1, n2, n3, n4, n5, n6⟩ := B2.out.seven
        have pf := B0.out.frozen
        have rf := B1.out.frozen
        go_upto_region 11 with (fail)
        refine wp_gen (F := fun v => BoxC v w.heap.size 50 #[.slice ca cn cc, .slice ta tn tc, .int .i64 (np : Int), .slice xa' 256 xc', .slice ra' 256 rc', .slice ma' mn mc', .bool false] ∧ BoxC v (w.heap.size + 1) 50 #[.slice none 0 0, .slice none 0 0, .int .i64 0, .slice none 0 0, .slice none 0 0, .slice none 0 0, .bool false] ∧ MSt v w.heap.size (.slice xa' 256 xc') (.slice ra' 256 rc') (.slice ma' mn mc') mn s' ∧ Up w v) ⟨(B0.out).put7 (.slice ca cn cc) (.slice ta tn tc) (.int .i64 (np : Int)) (.slice xa' 256 xc') (.slice ra' 256 rc') (.slice ma' mn mc') (.bool false), (((((((B1.out).ne (b := w.heap.size) (by omega) 0 (.slice ca cn cc)).ne (b := w.heap.size) (by omega) 1 (.slice ta tn tc)).ne (b := w.heap.size) (by omega) 2 (.int .i64 (np : Int))).ne (b := w.heap.size) (by omega) 3 (.slice xa' 256 xc')).ne (b := w.heap.size) (by omega) 4 (.slice ra' 256 rc')).ne (b := w.heap.size) (by omega) 5 (.slice ma' mn mc')).ne (b := w.heap.size) (by omega) 6 (.bool false), (((((((HM2.out).set (b := w.heap.size) (.inl rfl) 0 (.slice ca cn cc)).set (b := w.heap.size) (.inl rfl) 1 (.slice ta tn tc)).set (b := w.heap.size) (.inl rfl) 2 (.int .i64 (np : Int))).set (b := w.heap.size) (.inl rfl) 3 (.slice xa' 256 xc')).set (b := w.heap.size) (.inl rfl) 4 (.slice ra' 256 rc')).set (b := w.heap.size) (.inl rfl) 5 (.slice ma' mn mc')).set (b := w.heap.size) (.inl rfl) 6 (.bool false), (((((((HU.out).setCell (p := ⟨w.heap.size, 0, none⟩) (Nat.le_refl _) (.slice ca cn cc)).setCell (p := ⟨w.heap.size, 1, none⟩) (Nat.le_refl _) (.slice ta tn tc)).setCell (p := ⟨w.heap.size, 2, none⟩) (Nat.le_refl _) (.int .i64 (np : Int))).setCell (p := ⟨w.heap.size, 3, none⟩) (Nat.le_refl _) (.slice xa' 256 xc')).setCell (p := ⟨w.heap.size, 4, none⟩) (Nat.le_refl _) (.slice ra' 256 rc')).setCell (p := ⟨w.heap.size, 5, none⟩) (Nat.le_refl _) (.slice ma' mn mc')).setCell (p := ⟨w.heap.size, 6, none⟩) (Nat.le_refl _) (.bool false)⟩ ?_
        rintro v ⟨V0, V1, VM, VU⟩
        replace B0 := Lib.hid V0
        replace B1 := Lib.hid V1
        replace HM2 := Lib.hid VM
        replace HU := Lib.hid VU
        clear V0 V1 VM VU p0 p1 p2 p3 p4 p5 p6 r0 r1 r2 r3 r4 r5 r6 pf rf n0 n1 n2 n3 n4 n5 n6 B2
        go_wp2
        go_roundw
        case rel => exact ⟨q + 1, np, s', false, xa', xc', ra', rc', ma', mc', by go_num, by omega, (HNP.out ▸ HI.out.go hqf2 hlt HOX.out), B0.out, B1.out, HM2.out, HU.out⟩
        case measure => simp [intOf]; omega
    · go_wp2
      have HUF := Lib.hid ((((((((HU.out).setCell (p := ⟨w.heap.size + 1, 0, none⟩) (by show w.heap.size ≤ w.heap.size + 1; omega) (.slice ca cn cc)).setCell (p := ⟨w.heap.size + 1, 1, none⟩) (by show w.heap.size ≤ w.heap.size + 1; omega) (.slice ta tn tc)).setCell (p := ⟨w.heap.size + 1, 2, none⟩) (by show w.heap.size ≤ w.heap.size + 1; omega) (.int .i64 (pc : Int))).setCell (p := ⟨w.heap.size + 1, 3, none⟩) (by show w.heap.size ≤ w.heap.size + 1; omega) (.slice xa 256 xc)).setCell (p := ⟨w.heap.size + 1, 4, none⟩) (by show w.heap.size ≤ w.heap.size + 1; omega) (.slice ra 256 rc)).setCell (p := ⟨w.heap.size + 1, 5, none⟩) (by show w.heap.size ≤ w.heap.size + 1; omega) (.slice ma mn mc)).setCell (p := ⟨w.heap.size + 1, 6, none⟩) (by show w.heap.size ≤ w.heap.size + 1; omega) (.bool true))
      have HMF := Lib.hid ((((((((HM.out).set (b := w.heap.size + 1) (.inr rfl) 0 (.slice ca cn cc)).set (b := w.heap.size + 1) (.inr rfl) 1 (.slice ta tn tc)).set (b := w.heap.size + 1) (.inr rfl) 2 (.int .i64 (pc : Int))).set (b := w.heap.size + 1) (.inr rfl) 3 (.slice xa 256 xc)).set (b := w.heap.size + 1) (.inr rfl) 4 (.slice ra 256 rc)).set (b := w.heap.size + 1) (.inr rfl) 5 (.slice ma mn mc)).set (b := w.heap.size + 1) (.inr rfl) 6 (.bool true))
      refine bodyPost_ret (v := .tuple #[.agg #[.slice ca cn cc, .slice ta tn tc, .int .i64 (pc : Int), .slice xa 256 xc, .slice ra 256 rc, .slice ma mn mc, .bool true], .int .i64 (q : Int), .int .i64 0]) (by simp [results, Tryd.results21, go_sem, *]) rfl ?_
      obtain hres := (HI.out : res = (s, q, 0))
      subst hres
      exact ⟨pc, xa, xc, ra, rc, ma, mc, true, rfl, HUF.out, HMF.out.X, HMF.out.R, HMF.out.M⟩
end Go.Proofs.YtbpojmhgifgfdaaDoor
