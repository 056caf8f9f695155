/-
  Eval of the reference: the walk.
-/
import Derived.Test.YtahlecmlhdikjaaDoorGj
import Derived.Test.YtahlecmlhdikjaaDoorGb

import Derived.Test.YtahlecmlhdikjaaDoorGd
namespace Go.Proofs.YtahlecmlhdikjaaDoor
open Go.ChangeShapes Go.WideShapes Go.ChangeAt Go.RowKit
set_option linter.unusedVariables false
set_option linter.unusedSimpArgs false

/-- The two sums: their difference and a bound. -/
def PNAt (w : World) (P : Nat) (acc m : Int) : Prop := ∃ Tp Tn : Int, W6 w P (wd Tp) ∧ W6 w (P + 1) (wd Tn) ∧ (0 ≤ Tp ∧ Tp ≤ m) ∧ (0 ≤ Tn ∧ Tn ≤ m) ∧ Tp - Tn = acc
theorem PNAt.up {w w' : World} {P : Nat} {acc m : Int} (h : PNAt w P acc m) (u : Up w w') : PNAt w' P acc m := by
  obtain ⟨Tp, Tn, h1, h2, h3⟩ := h
  exact ⟨Tp, Tn, h1.up u, h2.up u, h3⟩
theorem PNAt.pos {w : World} {P : Nat} {Tp Tn T acc m : Int} (h1 : W6 w P (wd Tp)) (h2 : W6 w (P + 1) (wd Tn)) (g1 : 0 ≤ T ∧ T ≤ m) (g2 : 0 ≤ Tn ∧ Tn ≤ m) (h : T - Tn = acc) : PNAt (put6 w P (wd T)) P acc m :=
  ⟨T, Tn, put6_at h1 _, h2.but (put6_but w P _) (by omega), g1, g2, h⟩
theorem PNAt.neg {w : World} {P : Nat} {Tp Tn T acc m : Int} (h1 : W6 w P (wd Tp)) (h2 : W6 w (P + 1) (wd Tn)) (g1 : 0 ≤ Tp ∧ Tp ≤ m) (g2 : 0 ≤ T ∧ T ≤ m) (h : Tp - T = acc) : PNAt (put6 w (P + 1) (wd T)) P acc m :=
  ⟨Tp, T, h1.but (put6_but w (P + 1) _) (by omega), put6_at h2 _, g1, g2, h⟩
theorem wd_zero (k : Nat) : wd 0 k = 0 := by unfold wd; split <;> rfl
theorem wide2 (w : World) : W6 ((w.alloc (.cells #[.int .u64 0, .int .u64 0, .int .u64 0, .int .u64 0, .int .u64 0, .int .u64 0] 93)).alloc (.cells #[.int .u64 0, .int .u64 0, .int .u64 0, .int .u64 0, .int .u64 0, .int .u64 0] 93)) w.heap.size (wd 0) ∧ W6 ((w.alloc (.cells #[.int .u64 0, .int .u64 0, .int .u64 0, .int .u64 0, .int .u64 0, .int .u64 0] 93)).alloc (.cells #[.int .u64 0, .int .u64 0, .int .u64 0, .int .u64 0, .int .u64 0, .int .u64 0] 93)) (w.heap.size + 1) (wd 0) := by
  have e : wd 0 = fun _ => 0 := by funext k; exact wd_zero k
  rw [e]
  refine ⟨(W6.new0 w _).up ((Up.refl _).alloc _), ?_⟩
  have := W6.new0 (w.alloc (.cells #[.int .u64 0, .int .u64 0, .int .u64 0, .int .u64 0, .int .u64 0, .int .u64 0] 93)) 93
  rw [size_alloc] at this; exact this

def contE (o : Option Int) (f : Int → Option Int) : Option Int := match o with
  | none => none
  | some v => f v
theorem look_rng (s : List UInt8) : ∀ (l : List Mono) (v : Int), (∀ m ∈ l, In64 m.2) → lookE l s = some v → In64 v
  | [], v, _, h => by cases h
  | m :: r, v, hr, h => by
    unfold lookE at h
    split at h
    · cases h; exact hr m (by simp)
    · exact look_rng s r v (fun x hx => hr x (by simp [hx])) h
theorem UpBut.two1 {h b c : Nat} {w w' : World} (u : UpBut b w w') (hh : h ≤ w.heap.size) : UpTwo h b c w w' := ⟨u.os, u.tape, u.output, u.size, fun k hk hb hc => u.block k (by omega) hb⟩
theorem UpBut.two2 {h b c : Nat} {w w' : World} (u : UpBut c w w') (hh : h ≤ w.heap.size) : UpTwo h b c w w' := ⟨u.os, u.tape, u.output, u.size, fun k hk hb hc => u.block k (by omega) hc⟩

set_option maxHeartbeats 16000000 in
set_option maxRecDepth 100000 in
theorem r05_Eval (K : Int) (v ev : Value) (l env : List Mono) (w : World) (hv : MonosAt w v l) (he : MonosAt w ev env) (hK : In64 K) (hl : Rng l) (hen : Rng env) (hlen : l.length ≤ 1000) :
    Calls Tryd.prog 46 #[.agg #[.int .i64 K, v], ev] w fun e w' => e = .returned (.tuple #[.int .i64 (evalF K l env).1, .int .i64 (evalF K l env).2]) ∧ Up w w' := by
  obtain ⟨a, cap, rfl⟩ := hv.slice
  obtain ⟨n, hn⟩ : ∃ n, l.length = n := ⟨_, rfl⟩
  rw [hn] at hv hlen ⊢
  have hnI : (n : Int) ≤ 1000 := by omega
  have HV := Lib.hid hv
  have HE := Lib.hid he
  have HN := Lib.hid hn
  have HK := Lib.hid hK
  have HL := Lib.hid hl
  have HEN := Lib.hid hen
  obtain ⟨q, hq⟩ : ∃ q, okL l = q := ⟨_, rfl⟩
  have HVA : Hid (∀ (K : Int) (w : World) (hv : MonosAt w (.slice a n cap) l), Calls Tryd.prog 65 #[.agg #[.int .i64 K, .slice a n cap]] w fun e w' => e = .returned (.int .i64 (errOf q)) ∧ Up w w') := Lib.hid fun K w hv => by
    have := r05_Validate K (.slice a n cap) l w hv
    rw [hq] at this
    exact this
  have HR : Hid (evalF K l env = if q then evalR (sumE env l K) else (0, 1)) := Lib.hid (by unfold evalF; rw [hq])
  obtain ⟨r, hr⟩ : ∃ r, evalF K l env = r := ⟨_, rfl⟩
  rw [hr] at HR ⊢
  clear hv he hn hK hl hen hq hr
  obtain ⟨k0, k1⟩ := HK.out
  go_enter Tryd.func46, Tryd.ntmps46
  go_wp2_with fail
  refine (HVA.out _ _ (HV.out.up ((Up.refl w).alloc _))).mono ?_
  rintro e x1 ⟨rfl, hx1⟩
  cases q
  · rw [show errOf false = 1 from rfl]
    go_wp2
    go_ret2
    have := HR.out
    exact ⟨ret_ii (by rw [this]; rfl) (by rw [this]; rfl), ((Up.refl w).alloc _).trans hx1⟩
  · rw [show errOf true = 0 from rfl]
    have hs := hx1.size
    rw [size_alloc] at hs
    have HRR : Hid (r = evalR (sumE env l K)) := Lib.hid (by rw [HR.out]; rfl)
    have b0 : x1.cell? ⟨w.heap.size, 0, none⟩ = some (.int .i64 K) := (hx1.cell _ _ (by rw [size_alloc]; omega)).trans (by go_simp)
    have b1 : x1.cell? ⟨w.heap.size, 1, none⟩ = some (.slice a n cap) := (hx1.cell _ _ (by rw [size_alloc]; omega)).trans (by go_simp)
    have HU1 := Lib.hid (((Up.refl w).alloc (.cells #[.int .i64 K, .slice a n cap] 24)).trans hx1)
    have q0 : w.heap.size < x1.heap.size := by omega
    clear hx1 HR
    obtain ⟨m1, m2, m3⟩ := mag_range K HK.out
    obtain ⟨mk, hmk⟩ : ∃ m, mag K = m := ⟨_, rfl⟩
    rw [hmk] at m1 m2 m3
    have HM : Hid (∀ w, Calls Tryd.prog 67 #[.int .i64 K] w fun e w' => e = .returned (.int .u64 mk) ∧ Up w w') := Lib.hid fun w => by
      rw [← hmk]
      exact (r05_size K k0 k1 w).mono fun e w' ⟨h1, h2⟩ => ⟨h1, h2 ▸ Up.refl _⟩
    have HPL : Hid (∀ W, Calls Tryd.prog 66 #[.agg #[.int .u64 (wd 0 0), .int .u64 (wd 0 1), .int .u64 (wd 0 2), .int .u64 (wd 0 3), .int .u64 (wd 0 4), .int .u64 (wd 0 5)], .int .u64 mk, .int .u64 1] W fun e w' => e = .returned (.agg #[.int .u64 (wd mk 0), .int .u64 (wd mk 1), .int .u64 (wd mk 2), .int .u64 (wd mk 3), .int .u64 (wd mk 4), .int .u64 (wd mk 5)]) ∧ Up W w') := Lib.hid fun W => r05_plusV 0 mk 1 mk (by omega) m1 m2 (by omega) (by omega) (by omega) (by omega) W
    obtain ⟨P, hP⟩ : ∃ P, x1.heap.size = P := ⟨_, rfl⟩
    obtain ⟨W2, hW2⟩ : ∃ W2, (x1.alloc (.cells #[.int .u64 0, .int .u64 0, .int .u64 0, .int .u64 0, .int .u64 0, .int .u64 0] 93)).alloc (.cells #[.int .u64 0, .int .u64 0, .int .u64 0, .int .u64 0, .int .u64 0, .int .u64 0] 93) = W2 := ⟨_, rfl⟩
    have hpn := wide2 x1
    rw [hW2, hP] at hpn
    obtain ⟨p1, p2⟩ := hpn
    have hU2 : Up x1 W2 := by rw [← hW2]; exact ((Up.refl x1).alloc _).alloc _
    have e0 : W2.cell? ⟨w.heap.size, 0, none⟩ = some (.int .i64 K) := (hU2.cell _ _ q0).trans b0
    have e1 : W2.cell? ⟨w.heap.size, 1, none⟩ = some (.slice a n cap) := (hU2.cell _ _ q0).trans b1
    have HU2 := Lib.hid (HU1.out.trans hU2)
    have HMK := Lib.hid hmk
    have q0' := q0
    rw [hP] at q0' hs
    have l1 := p1.lt
    have l2 := p2.lt
    have hsz2 : w.heap.size < W2.heap.size := by omega
    have hwP : ¬ w.heap.size = P := by omega
    have hwP2 : ¬ w.heap.size = P + 1 := by omega
    have H1 := Lib.hid p1
    have H2 := Lib.hid p2
    have HPE := Lib.hid hP
    have HWE := Lib.hid hW2
    have HQ0 := Lib.hid q0'
    clear hmk hP hW2 hU2 b1 HU1 HVA p1 p2 hs q0'
    by_cases hKn : K < 0
    · have HKS : Hid (K = -mk) := Lib.hid (by rw [← HMK.out]; unfold mag; rw [if_pos hKn]; omega)
      obtain ⟨d0, d1, d2, d3, d4, d5⟩ := H2.out.six
      go_wp2_with fail
      rw [HPE.out, HWE.out]
      clear b0 q0
      refine wp_region_ext_tail 5 (by kernel_rfl) (by kernel_rfl) ?_
      simp only [List.take_succ_cons, List.take_zero, List.drop_succ_cons, List.drop_zero]
      repeat (go_big_quiet_step (first | (go_at_call 67; exact Calls.ext_of (HM.out _)) | (go_at_call 66; exact Calls.ext_of (HPL.out _))))
      refine wpQuiet_nil ?_
      intro x2 hx2
      clear d0 d1 d2 d3 d4 d5
      have HG1 := Lib.hid (H1.out.up hx2)
      have HG2 := Lib.hid (H2.out.up hx2)
      have f1 : x2.cell? ⟨w.heap.size, 1, none⟩ = some (.slice a n cap) := (hx2.cell _ _ hsz2).trans e1
      have HU3 := Lib.hid (HU2.out.trans hx2)
      obtain ⟨d0, d1, d2, d3, d4, d5⟩ := HG2.out.six
      have fz := HG2.out.fz
      have hss := hx2.size
      clear hx2
      go_wp2
      clear d0 d1 d2 d3 d4 d5 fz
      obtain ⟨W3, hW3⟩ : ∃ W3, put6 x2 (P + 1) (wd mk) = W3 := ⟨_, rfl⟩
      have hpn : PNAt W3 P K 9223372036854775808 := by
        rw [← hW3]
        have := HKS.out
        exact PNAt.neg HG1.out HG2.out (by omega) (by omega) (by omega)
      have hbt : UpBut (P + 1) x2 W3 := hW3 ▸ put6_but _ _ _
      have f2 : W3.cell? ⟨w.heap.size, 1, none⟩ = some (.slice a n cap) := (hbt.cell _ _ (by omega) (by omega)).trans f1
      have HU4 : Hid (Up w W3) := Lib.hid (UpBut.up HU3.out (by have := HQ0.out; omega) hbt)
      have hw3s : w.heap.size < W3.heap.size := by have := hbt.size; omega
      unfold put6 at hW3
      rw [hW3]
      have HPN := Lib.hid hpn
      have HF2 := Lib.hid f2
      clear hpn hbt hW3 f1 f2 HG1 HG2 HU3 hss HKS hKn
      go_loopw [8] (fun i wr => ∃ (k : Nat) (acc : Int), k ≤ n ∧ i = .int .i64 k ∧ Up w wr ∧ UpTwo (P + 1 + 1) P (P + 1) W3 wr ∧ PNAt wr P acc (9223372036854775808 + (k : Int) * 85070591730234615865843651857942052864) ∧ sumE env (l.drop k) acc = sumE env l K) (fun i _ => n - (intOf i).toNat)
      case atStart => exact ⟨0, K, by omega, rfl, HU4.out, UpTwo.refl _ _ _ _, HPN.out, by rw [List.drop_zero]⟩
      case round =>
        rename_i wr
        obtain ⟨k, acc, hk, rfl, hU, hT, hW, hP⟩ := hrel
        have HP := Lib.hid hP
        have HT := Lib.hid hT
        have HU := Lib.hid hU
        have hq0 := HQ0.out
        have g1 : wr.cell? ⟨w.heap.size, 1, none⟩ = some (.slice a n cap) := (hT.cell _ _ (by omega) (by omega) (by omega)).trans HF2.out
        obtain ⟨Tp, Tn, u1, u2, ⟨v1, v2⟩, ⟨v3, v4⟩, u5⟩ := hW
        have l3 := u1.lt
        have l4 := u2.lt
        have G1 := Lib.hid u1
        have G2 := Lib.hid u2
        have G5 := Lib.hid u5
        have hwr : w.heap.size < wr.heap.size := by omega
        clear hP hT u1 u2 u5
        by_cases hlt : k < n
        · have hlt2 : (k : Int) < (n : Int) := by omega
          have hk0 : (0 : Int) ≤ (k : Int) := by omega
          obtain ⟨bl, off, s, b, rfl, p1, p2, p3, p4⟩ := HV.out.elem hU k (by rw [HN.out]; exact hlt) HN.out rfl
          have hrb : In64 b := by
            have := HL.out k (by rw [HN.out]; exact hlt)
            rw [p2] at this; exact this
          have hdrop := drop_mono (by rw [HN.out]; exact hlt) p2
          obtain ⟨o, ho⟩ : ∃ o, lookE env s.toList = o := ⟨_, rfl⟩
          have HP2 : Hid (contE o (fun v => sumE env (l.drop (k + 1)) (acc + b * v)) = sumE env l K) := Lib.hid (by
            rw [← HP.out, hdrop, ← ho]; rfl)
          have HFD : Hid (∀ W, MonosAt W ev env → Calls Tryd.prog 68 #[ev, .string s] W fun e w' => e = .returned (.tuple #[.int .i64 (foundF o).1, .bool (foundF o).2]) ∧ w' = W) := Lib.hid (fun W h => by
            have := r05_find s ev env W h
            rw [ho] at this; exact this)
          have hbl : bl < wr.heap.size := Nat.lt_of_lt_of_le p1 hU.size
          have HLO := Lib.hid ho
          clear HP hdrop p2 hU ho p1
          cases o with
          | none =>
            have HRE : Hid (r = (0, 9)) := Lib.hid (by rw [HRR.out, ← HP2.out]; rfl)
            go_wp2_with fail
            refine (HFD.out _ (HE.out.up HU.out)).mono ?_
            rintro e y ⟨rfl, hy⟩
            replace hy := hy.symm
            subst hy
            rw [show (foundF none).1 = 0 from rfl, show (foundF none).2 = false from rfl]
            go_wp2
            go_ret2
            exact ⟨ret_ii (by rw [HRE.out]) (by rw [HRE.out]), HU.out⟩
          | some x =>
            have hrx : In64 x := look_rng _ env x (Rng.mem HEN.out) HLO.out
            have HP3 : Hid (sumE env (l.drop (k + 1)) (acc + b * x) = sumE env l K) := Lib.hid (by rw [← HP2.out]; rfl)
            clear HP2 HLO
            obtain ⟨b0, b1'⟩ := hrb
            obtain ⟨x0, x1'⟩ := hrx
            have HSZ : Hid (∀ z w, (z = x ∨ z = b) → Calls Tryd.prog 67 #[.int .i64 z] w fun e w' => e = .returned (.int .u64 (mag z)) ∧ Up w w') := Lib.hid fun z w hz => by
              have h : In64 z := by rcases hz with rfl | rfl <;> exact ⟨by assumption, by assumption⟩
              exact (r05_size z h.1 h.2 w).mono fun e w' ⟨h1, h2⟩ => ⟨h1, h2 ▸ Up.refl _⟩
            obtain ⟨r1, r2, r3⟩ := mag_range b ⟨b0, b1'⟩
            obtain ⟨r4, r5, r6⟩ := mag_range x ⟨x0, x1'⟩
            obtain ⟨r7, r8⟩ := mag_mul_le x b ⟨x0, x1'⟩ ⟨b0, b1'⟩
            have hsm := sign_mul x b
            rw [Int.mul_comm x b] at hsm
            obtain ⟨Pr, hPr⟩ : ∃ P, mag x * mag b = P := ⟨_, rfl⟩
            rw [hPr] at r7 r8 hsm
            obtain ⟨bx, hbx⟩ : ∃ t, b * x = t := ⟨_, rfl⟩
            rw [hbx] at hsm HP3
            have HPR := Lib.hid hPr
            have HSM := Lib.hid hsm
            clear hsm hbx hPr r3 r6
            by_cases hng : (!(decide (x < 0) == decide (b < 0))) = true
            · have HS2 : Hid (bx = -Pr) := Lib.hid (by rw [← HSM.out]; exact if_pos hng)
              clear HSM
              have HPL2 : Hid (∀ W, Calls Tryd.prog 66 #[.agg #[.int .u64 (wd Tn 0), .int .u64 (wd Tn 1), .int .u64 (wd Tn 2), .int .u64 (wd Tn 3), .int .u64 (wd Tn 4), .int .u64 (wd Tn 5)], .int .u64 (mag x), .int .u64 (mag b)] W fun e w' => e = .returned (.agg #[.int .u64 (wd (Tn + Pr) 0), .int .u64 (wd (Tn + Pr) 1), .int .u64 (wd (Tn + Pr) 2), .int .u64 (wd (Tn + Pr) 3), .int .u64 (wd (Tn + Pr) 4), .int .u64 (wd (Tn + Pr) 5)]) ∧ Up W w') := Lib.hid fun W => r05_plusV Tn (mag x) (mag b) (Tn + Pr) v3 r4 r5 r1 r2 (by rw [HPR.out]) (by omega) W
              obtain ⟨d0, d1, d2, d3, d4, d5⟩ := G2.out.six
              have hp3 := p3
              go_wp2_with fail
              refine (HFD.out _ (HE.out.up HU.out)).mono ?_
              rintro e y ⟨rfl, hy⟩
              replace hy := hy.symm
              subst hy
              rw [show (foundF (some x)).1 = x from rfl, show (foundF (some x)).2 = true from rfl]
              go_wp2_with fail
              refine wp_region_ext_tail 11 (by kernel_rfl) (by kernel_rfl) ?_
              simp only [List.take_succ_cons, List.take_zero, List.drop_succ_cons, List.drop_zero]
              repeat (go_big_quiet_step (first | (go_at_call 67; exact Calls.ext_of (HSZ.out _ _ (by first | exact Or.inl rfl | exact Or.inr rfl))) | (go_at_call 66; exact Calls.ext_of (HPL2.out _))))
              refine wpQuiet_nil ?_
              intro x2 hx2
              clear d0 d1 d2 d3 d4 d5
              have HG1 := Lib.hid (G1.out.up hx2)
              have HG2 := Lib.hid (G2.out.up hx2)
              have HTT := Lib.hid (HT.out.trans (Up.two hx2 (by omega)))
              have HU5 := Lib.hid (HU.out.trans hx2)
              obtain ⟨d0, d1, d2, d3, d4, d5⟩ := HG2.out.six
              have fz := HG2.out.fz
              have l5 := HG2.out.lt
              have hss := hx2.size
              clear hx2
              go_wp2
              clear d0 d1 d2 d3 d4 d5 fz
              obtain ⟨W4, hW4⟩ : ∃ W4, put6 x2 (P + 1) (wd (Tn + Pr)) = W4 := ⟨_, rfl⟩
              have hpn : PNAt W4 P (acc + bx) (9223372036854775808 + ((k + 1 : Nat) : Int) * 85070591730234615865843651857942052864) := by
                rw [← hW4]
                have h1 := HS2.out
                have h2 := G5.out
                exact PNAt.neg HG1.out HG2.out (by omega) (by omega) (by omega)
              have hbt : UpBut (P + 1) x2 W4 := hW4 ▸ put6_but _ _ _
              have hq0 := HQ0.out
              have HU6 : Hid (Up w W4) := Lib.hid (UpBut.up HU5.out (by omega) hbt)
              have HT6 : Hid (UpTwo (P + 1 + 1) P (P + 1) W3 W4) := Lib.hid (HTT.out.trans (hbt.two2 (by omega)))
              unfold put6 at hW4
              rw [hW4]
              go_roundw
              case rel => exact ⟨k + 1, acc + bx, by omega, by go_num, HU6.out, HT6.out, hpn, HP3.out⟩
              case measure => simp [intOf]; omega
            · have hng2 : (!(decide (x < 0) == decide (b < 0))) = false := by simpa using hng
              have HS2 : Hid (bx = Pr) := Lib.hid (by rw [← HSM.out]; exact if_neg hng)
              clear HSM hng
              have HPL2 : Hid (∀ W, Calls Tryd.prog 66 #[.agg #[.int .u64 (wd Tp 0), .int .u64 (wd Tp 1), .int .u64 (wd Tp 2), .int .u64 (wd Tp 3), .int .u64 (wd Tp 4), .int .u64 (wd Tp 5)], .int .u64 (mag x), .int .u64 (mag b)] W fun e w' => e = .returned (.agg #[.int .u64 (wd (Tp + Pr) 0), .int .u64 (wd (Tp + Pr) 1), .int .u64 (wd (Tp + Pr) 2), .int .u64 (wd (Tp + Pr) 3), .int .u64 (wd (Tp + Pr) 4), .int .u64 (wd (Tp + Pr) 5)]) ∧ Up W w') := Lib.hid fun W => r05_plusV Tp (mag x) (mag b) (Tp + Pr) v1 r4 r5 r1 r2 (by rw [HPR.out]) (by omega) W
              obtain ⟨d0, d1, d2, d3, d4, d5⟩ := G1.out.six
              have hp3 := p3
              go_wp2_with fail
              refine (HFD.out _ (HE.out.up HU.out)).mono ?_
              rintro e y ⟨rfl, hy⟩
              replace hy := hy.symm
              subst hy
              rw [show (foundF (some x)).1 = x from rfl, show (foundF (some x)).2 = true from rfl]
              go_wp2_with fail
              refine wp_region_ext_tail 11 (by kernel_rfl) (by kernel_rfl) ?_
              simp only [List.take_succ_cons, List.take_zero, List.drop_succ_cons, List.drop_zero]
              repeat (go_big_quiet_step (first | (go_at_call 67; exact Calls.ext_of (HSZ.out _ _ (by first | exact Or.inl rfl | exact Or.inr rfl))) | (go_at_call 66; exact Calls.ext_of (HPL2.out _))))
              refine wpQuiet_nil ?_
              intro x2 hx2
              clear d0 d1 d2 d3 d4 d5
              have HG1 := Lib.hid (G1.out.up hx2)
              have HG2 := Lib.hid (G2.out.up hx2)
              have HTT := Lib.hid (HT.out.trans (Up.two hx2 (by omega)))
              have HU5 := Lib.hid (HU.out.trans hx2)
              obtain ⟨d0, d1, d2, d3, d4, d5⟩ := HG1.out.six
              have fz := HG1.out.fz
              have l5 := HG1.out.lt
              have hss := hx2.size
              clear hx2
              go_wp2
              clear d0 d1 d2 d3 d4 d5 fz
              obtain ⟨W4, hW4⟩ : ∃ W4, put6 x2 P (wd (Tp + Pr)) = W4 := ⟨_, rfl⟩
              have hpn : PNAt W4 P (acc + bx) (9223372036854775808 + ((k + 1 : Nat) : Int) * 85070591730234615865843651857942052864) := by
                rw [← hW4]
                have h1 := HS2.out
                have h2 := G5.out
                exact PNAt.pos HG1.out HG2.out (by omega) (by omega) (by omega)
              have hbt : UpBut P x2 W4 := hW4 ▸ put6_but _ _ _
              have hq0 := HQ0.out
              have HU6 : Hid (Up w W4) := Lib.hid (UpBut.up HU5.out (by omega) hbt)
              have HT6 : Hid (UpTwo (P + 1 + 1) P (P + 1) W3 W4) := Lib.hid (HTT.out.trans (hbt.two1 (by omega)))
              unfold put6 at hW4
              rw [hW4]
              go_roundw
              case rel => exact ⟨k + 1, acc + bx, by omega, by go_num, HU6.out, HT6.out, hpn, HP3.out⟩
              case measure => simp [intOf]; omega
        · have hlt2 : (n : Int) ≤ (k : Int) := by omega
          have HRE : Hid (r = evalR (some acc)) := Lib.hid (by
            rw [HRR.out, ← HP.out, List.drop_eq_nil_of_le (by rw [HN.out]; omega)]; rfl)
          have h5 := G5.out
          have hkk : (k : Int) ≤ 1000 := by omega
          clear HP HRR
          obtain ⟨d0, d1, d2, d3, d4, d5⟩ := G1.out.six
          obtain ⟨c0, c1, c2, c3, c4, c5⟩ := G2.out.six
          by_cases hneg : Tp < Tn
          · have HLS : Hid (∀ W, Calls Tryd.prog 69 #[.agg #[.int .u64 (wd Tp 0), .int .u64 (wd Tp 1), .int .u64 (wd Tp 2), .int .u64 (wd Tp 3), .int .u64 (wd Tp 4), .int .u64 (wd Tp 5)], .agg #[.int .u64 (wd Tn 0), .int .u64 (wd Tn 1), .int .u64 (wd Tn 2), .int .u64 (wd Tn 3), .int .u64 (wd Tn 4), .int .u64 (wd Tn 5)]] W fun e w' => e = .returned (.bool true) ∧ Up W w') := Lib.hid fun W => by
              have := r05_lessV Tp Tn v1 (by omega) v3 (by omega) W
              rw [decide_eq_true hneg] at this
              exact this
            obtain ⟨T, hT⟩ : ∃ T, Tn - Tp = T := ⟨_, rfl⟩
            have HMI : Hid (∀ W, Calls Tryd.prog 70 #[.agg #[.int .u64 (wd Tn 0), .int .u64 (wd Tn 1), .int .u64 (wd Tn 2), .int .u64 (wd Tn 3), .int .u64 (wd Tn 4), .int .u64 (wd Tn 5)], .agg #[.int .u64 (wd Tp 0), .int .u64 (wd Tp 1), .int .u64 (wd Tp 2), .int .u64 (wd Tp 3), .int .u64 (wd Tp 4), .int .u64 (wd Tp 5)]] W fun e w' => e = .returned (.agg #[.int .u64 (wd T 0), .int .u64 (wd T 1), .int .u64 (wd T 2), .int .u64 (wd T 3), .int .u64 (wd T 4), .int .u64 (wd T 5)]) ∧ Up W w') := Lib.hid fun W => r05_minusV Tn Tp T (by omega) (by omega) (by omega) hT W
            have hT0 : 0 < T := by omega
            have hTB : T < 6277101735386680763835789423207666416102355444464034512896 := by omega
            have hTA : Hid (acc = -T) := Lib.hid (by omega)
            clear hT h5 hneg
            go_wp2_with fail
            refine (HLS.out _).mono ?_
            rintro e y ⟨rfl, hy⟩
            have HGY1 := Lib.hid (G1.out.up hy)
            have HGY2 := Lib.hid (G2.out.up hy)
            have HUY := Lib.hid (HU.out.trans hy)
            clear d0 d1 d2 d3 d4 d5 c0 c1 c2 c3 c4 c5 hy
            obtain ⟨d0, d1, d2, d3, d4, d5⟩ := HGY1.out.six
            obtain ⟨c0, c1, c2, c3, c4, c5⟩ := HGY2.out.six
            go_wp2_with fail
            refine (HMI.out _).mono ?_
            rintro e z ⟨rfl, hz⟩
            have HUZ := Lib.hid (HUY.out.trans hz)
            clear d0 d1 d2 d3 d4 d5 c0 c1 c2 c3 c4 c5 hz HGY1 HGY2 HUY G1 G2
            obtain ⟨x0, x1⟩ := (wd_dig T).at (by omega : 0 < 6)
            obtain ⟨y0, y1⟩ := (wd_dig T).at (by omega : 1 < 6)
            by_cases hbig : T < 18446744073709551616
            · obtain ⟨e2, e3, e4, e5, e01⟩ := wd_small T (by omega) hTB hbig
              have f1 : IntKind.u64.wrap (wd T 1 * 4294967296) = wd T 1 * 4294967296 := by rw [IntKind.wrap_u64]; omega
              have f2 : IntKind.u64.wrap (wd T 0 + wd T 1 * 4294967296) = T := by rw [IntKind.wrap_u64]; omega
              clear e01
              by_cases hfit : T ≤ 9223372036854775808
              · have HRX : Hid (r = (-T, 0)) := Lib.hid (by rw [HRE.out, hTA.out]; exact if_pos (fit_true (by omega)))
                have g1 : 0 ≤ T - 1 ∨ T = 0 := by omega
                have g2 : 0 ≤ T - 1 := by omega
                have g3 : T - 1 ≤ 9223372036854775807 := by omega
                have g4 : wrap64 (T - 1) = T - 1 := by unfold wrap64; omega
                have g5 : wrap64 (-(T - 1)) = -(T - 1) := by unfold wrap64; omega
                have g6 : wrap64 (-(T - 1) - 1) = -(T - 1) - 1 := by unfold wrap64; omega
                go_wp2
                go_ret2
                refine ⟨ret_ii (by rw [HRX.out]; try (first | rfl | omega)) (by rw [HRX.out]), ?_⟩
                first | exact HUZ.out.alloc _ | exact Up.alloc HUZ.out _
              · have HRX : Hid (r = (0, 3)) := Lib.hid (by rw [HRE.out, hTA.out]; exact if_neg (by rw [fit_false (by omega)]; simp))
                go_wp2
                go_ret2
                exact ⟨ret_ii (by rw [HRX.out]) (by rw [HRX.out]), HUZ.out.alloc _⟩
            · have HRX : Hid (r = (0, 3)) := Lib.hid (by rw [HRE.out, hTA.out]; exact if_neg (by rw [fit_false (by omega)]; simp))
              rcases wd_great T (by omega) hTB hbig with h | ⟨h2, h⟩ | ⟨h2, h3, h⟩ | ⟨h2, h3, h4, h⟩
              all_goals
                have hb := bne_iff_ne.2 h
                have hb2 := beq_eq_false_iff_ne.2 h
                go_wp2
                go_ret2
                exact ⟨ret_ii (by rw [HRX.out]) (by rw [HRX.out]), HUZ.out.alloc _⟩
          · have HLS : Hid (∀ W, Calls Tryd.prog 69 #[.agg #[.int .u64 (wd Tp 0), .int .u64 (wd Tp 1), .int .u64 (wd Tp 2), .int .u64 (wd Tp 3), .int .u64 (wd Tp 4), .int .u64 (wd Tp 5)], .agg #[.int .u64 (wd Tn 0), .int .u64 (wd Tn 1), .int .u64 (wd Tn 2), .int .u64 (wd Tn 3), .int .u64 (wd Tn 4), .int .u64 (wd Tn 5)]] W fun e w' => e = .returned (.bool false) ∧ Up W w') := Lib.hid fun W => by
              have := r05_lessV Tp Tn v1 (by omega) v3 (by omega) W
              rw [decide_eq_false hneg] at this
              exact this
            obtain ⟨T, hT⟩ : ∃ T, Tp - Tn = T := ⟨_, rfl⟩
            have HMI : Hid (∀ W, Calls Tryd.prog 70 #[.agg #[.int .u64 (wd Tp 0), .int .u64 (wd Tp 1), .int .u64 (wd Tp 2), .int .u64 (wd Tp 3), .int .u64 (wd Tp 4), .int .u64 (wd Tp 5)], .agg #[.int .u64 (wd Tn 0), .int .u64 (wd Tn 1), .int .u64 (wd Tn 2), .int .u64 (wd Tn 3), .int .u64 (wd Tn 4), .int .u64 (wd Tn 5)]] W fun e w' => e = .returned (.agg #[.int .u64 (wd T 0), .int .u64 (wd T 1), .int .u64 (wd T 2), .int .u64 (wd T 3), .int .u64 (wd T 4), .int .u64 (wd T 5)]) ∧ Up W w') := Lib.hid fun W => r05_minusV Tp Tn T (by omega) (by omega) (by omega) hT W
            have hT0 : 0 ≤ T := by omega
            have hTB : T < 6277101735386680763835789423207666416102355444464034512896 := by omega
            have hTA : Hid (acc = T) := Lib.hid (by omega)
            clear hT h5 hneg
            go_wp2_with fail
            refine (HLS.out _).mono ?_
            rintro e y ⟨rfl, hy⟩
            have HGY1 := Lib.hid (G1.out.up hy)
            have HGY2 := Lib.hid (G2.out.up hy)
            have HUY := Lib.hid (HU.out.trans hy)
            clear d0 d1 d2 d3 d4 d5 c0 c1 c2 c3 c4 c5 hy
            obtain ⟨d0, d1, d2, d3, d4, d5⟩ := HGY1.out.six
            obtain ⟨c0, c1, c2, c3, c4, c5⟩ := HGY2.out.six
            go_wp2_with fail
            refine (HMI.out _).mono ?_
            rintro e z ⟨rfl, hz⟩
            have HUZ := Lib.hid (HUY.out.trans hz)
            clear d0 d1 d2 d3 d4 d5 c0 c1 c2 c3 c4 c5 hz HGY1 HGY2 HUY G1 G2
            obtain ⟨x0, x1⟩ := (wd_dig T).at (by omega : 0 < 6)
            obtain ⟨y0, y1⟩ := (wd_dig T).at (by omega : 1 < 6)
            by_cases hbig : T < 18446744073709551616
            · obtain ⟨e2, e3, e4, e5, e01⟩ := wd_small T (by omega) hTB hbig
              have f1 : IntKind.u64.wrap (wd T 1 * 4294967296) = wd T 1 * 4294967296 := by rw [IntKind.wrap_u64]; omega
              have f2 : IntKind.u64.wrap (wd T 0 + wd T 1 * 4294967296) = T := by rw [IntKind.wrap_u64]; omega
              clear e01
              by_cases hfit : T ≤ 9223372036854775807
              · have HRX : Hid (r = (T, 0)) := Lib.hid (by rw [HRE.out, hTA.out]; exact if_pos (fit_true (by omega)))
                have g1 : 0 ≤ T - 1 ∨ T = 0 := by omega
                have g2 : 0 ≤ T := by omega
                have g3 : T ≤ 9223372036854775807 := by omega
                have g4 : wrap64 T = T := by unfold wrap64; omega
                have g5 : True := trivial
                have g6 : True := trivial
                go_wp2
                go_ret2
                refine ⟨ret_ii (by rw [HRX.out]; try (first | rfl | omega)) (by rw [HRX.out]), ?_⟩
                first | exact HUZ.out.alloc _ | exact Up.alloc HUZ.out _
              · have HRX : Hid (r = (0, 3)) := Lib.hid (by rw [HRE.out, hTA.out]; exact if_neg (by rw [fit_false (by omega)]; simp))
                go_wp2
                go_ret2
                exact ⟨ret_ii (by rw [HRX.out]) (by rw [HRX.out]), HUZ.out.alloc _⟩
            · have HRX : Hid (r = (0, 3)) := Lib.hid (by rw [HRE.out, hTA.out]; exact if_neg (by rw [fit_false (by omega)]; simp))
              rcases wd_great T (by omega) hTB hbig with h | ⟨h2, h⟩ | ⟨h2, h3, h⟩ | ⟨h2, h3, h4, h⟩
              all_goals
                have hb := bne_iff_ne.2 h
                have hb2 := beq_eq_false_iff_ne.2 h
                go_wp2
                go_ret2
                exact ⟨ret_ii (by rw [HRX.out]) (by rw [HRX.out]), HUZ.out.alloc _⟩
    · have hKp : 0 ≤ K := by omega
      have HKS : Hid (K = mk) := Lib.hid (by rw [← HMK.out]; unfold mag; rw [if_neg hKn])
      obtain ⟨d0, d1, d2, d3, d4, d5⟩ := H1.out.six
      go_wp2_with fail
      rw [HPE.out, HWE.out]
      clear b0 q0
      refine wp_region_ext_tail 5 (by kernel_rfl) (by kernel_rfl) ?_
      simp only [List.take_succ_cons, List.take_zero, List.drop_succ_cons, List.drop_zero]
      repeat (go_big_quiet_step (first | (go_at_call 67; exact Calls.ext_of (HM.out _)) | (go_at_call 66; exact Calls.ext_of (HPL.out _))))
      refine wpQuiet_nil ?_
      intro x2 hx2
      clear d0 d1 d2 d3 d4 d5
      have HG1 := Lib.hid (H1.out.up hx2)
      have HG2 := Lib.hid (H2.out.up hx2)
      have f1 : x2.cell? ⟨w.heap.size, 1, none⟩ = some (.slice a n cap) := (hx2.cell _ _ hsz2).trans e1
      have HU3 := Lib.hid (HU2.out.trans hx2)
      obtain ⟨d0, d1, d2, d3, d4, d5⟩ := HG1.out.six
      have fz := HG1.out.fz
      have hss := hx2.size
      clear hx2
      go_wp2
      clear d0 d1 d2 d3 d4 d5 fz
      obtain ⟨W3, hW3⟩ : ∃ W3, put6 x2 P (wd mk) = W3 := ⟨_, rfl⟩
      have hpn : PNAt W3 P K 9223372036854775808 := by
        rw [← hW3]
        have := HKS.out
        exact PNAt.pos HG1.out HG2.out (by omega) (by omega) (by omega)
      have hbt : UpBut P x2 W3 := hW3 ▸ put6_but _ _ _
      have f2 : W3.cell? ⟨w.heap.size, 1, none⟩ = some (.slice a n cap) := (hbt.cell _ _ (by omega) (by omega)).trans f1
      have HU4 : Hid (Up w W3) := Lib.hid (UpBut.up HU3.out (by have := HQ0.out; omega) hbt)
      have hw3s : w.heap.size < W3.heap.size := by have := hbt.size; omega
      unfold put6 at hW3
      rw [hW3]
      have HPN := Lib.hid hpn
      have HF2 := Lib.hid f2
      clear hpn hbt hW3 f1 f2 HG1 HG2 HU3 hss HKS hKn
      go_loopw [8] (fun i wr => ∃ (k : Nat) (acc : Int), k ≤ n ∧ i = .int .i64 k ∧ Up w wr ∧ UpTwo (P + 1 + 1) P (P + 1) W3 wr ∧ PNAt wr P acc (9223372036854775808 + (k : Int) * 85070591730234615865843651857942052864) ∧ sumE env (l.drop k) acc = sumE env l K) (fun i _ => n - (intOf i).toNat)
      case atStart => exact ⟨0, K, by omega, rfl, HU4.out, UpTwo.refl _ _ _ _, HPN.out, by rw [List.drop_zero]⟩
      case round =>
        rename_i wr
        obtain ⟨k, acc, hk, rfl, hU, hT, hW, hP⟩ := hrel
        have HP := Lib.hid hP
        have HT := Lib.hid hT
        have HU := Lib.hid hU
        have hq0 := HQ0.out
        have g1 : wr.cell? ⟨w.heap.size, 1, none⟩ = some (.slice a n cap) := (hT.cell _ _ (by omega) (by omega) (by omega)).trans HF2.out
        obtain ⟨Tp, Tn, u1, u2, ⟨v1, v2⟩, ⟨v3, v4⟩, u5⟩ := hW
        have l3 := u1.lt
        have l4 := u2.lt
        have G1 := Lib.hid u1
        have G2 := Lib.hid u2
        have G5 := Lib.hid u5
        have hwr : w.heap.size < wr.heap.size := by omega
        clear hP hT u1 u2 u5
        by_cases hlt : k < n
        · have hlt2 : (k : Int) < (n : Int) := by omega
          have hk0 : (0 : Int) ≤ (k : Int) := by omega
          obtain ⟨bl, off, s, b, rfl, p1, p2, p3, p4⟩ := HV.out.elem hU k (by rw [HN.out]; exact hlt) HN.out rfl
          have hrb : In64 b := by
            have := HL.out k (by rw [HN.out]; exact hlt)
            rw [p2] at this; exact this
          have hdrop := drop_mono (by rw [HN.out]; exact hlt) p2
          obtain ⟨o, ho⟩ : ∃ o, lookE env s.toList = o := ⟨_, rfl⟩
          have HP2 : Hid (contE o (fun v => sumE env (l.drop (k + 1)) (acc + b * v)) = sumE env l K) := Lib.hid (by
            rw [← HP.out, hdrop, ← ho]; rfl)
          have HFD : Hid (∀ W, MonosAt W ev env → Calls Tryd.prog 68 #[ev, .string s] W fun e w' => e = .returned (.tuple #[.int .i64 (foundF o).1, .bool (foundF o).2]) ∧ w' = W) := Lib.hid (fun W h => by
            have := r05_find s ev env W h
            rw [ho] at this; exact this)
          have hbl : bl < wr.heap.size := Nat.lt_of_lt_of_le p1 hU.size
          have HLO := Lib.hid ho
          clear HP hdrop p2 hU ho p1
          cases o with
          | none =>
            have HRE : Hid (r = (0, 9)) := Lib.hid (by rw [HRR.out, ← HP2.out]; rfl)
            go_wp2_with fail
            refine (HFD.out _ (HE.out.up HU.out)).mono ?_
            rintro e y ⟨rfl, hy⟩
            replace hy := hy.symm
            subst hy
            rw [show (foundF none).1 = 0 from rfl, show (foundF none).2 = false from rfl]
            go_wp2
            go_ret2
            exact ⟨ret_ii (by rw [HRE.out]) (by rw [HRE.out]), HU.out⟩
          | some x =>
            have hrx : In64 x := look_rng _ env x (Rng.mem HEN.out) HLO.out
            have HP3 : Hid (sumE env (l.drop (k + 1)) (acc + b * x) = sumE env l K) := Lib.hid (by rw [← HP2.out]; rfl)
            clear HP2 HLO
            obtain ⟨b0, b1'⟩ := hrb
            obtain ⟨x0, x1'⟩ := hrx
            have HSZ : Hid (∀ z w, (z = x ∨ z = b) → Calls Tryd.prog 67 #[.int .i64 z] w fun e w' => e = .returned (.int .u64 (mag z)) ∧ Up w w') := Lib.hid fun z w hz => by
              have h : In64 z := by rcases hz with rfl | rfl <;> exact ⟨by assumption, by assumption⟩
              exact (r05_size z h.1 h.2 w).mono fun e w' ⟨h1, h2⟩ => ⟨h1, h2 ▸ Up.refl _⟩
            obtain ⟨r1, r2, r3⟩ := mag_range b ⟨b0, b1'⟩
            obtain ⟨r4, r5, r6⟩ := mag_range x ⟨x0, x1'⟩
            obtain ⟨r7, r8⟩ := mag_mul_le x b ⟨x0, x1'⟩ ⟨b0, b1'⟩
            have hsm := sign_mul x b
            rw [Int.mul_comm x b] at hsm
            obtain ⟨Pr, hPr⟩ : ∃ P, mag x * mag b = P := ⟨_, rfl⟩
            rw [hPr] at r7 r8 hsm
            obtain ⟨bx, hbx⟩ : ∃ t, b * x = t := ⟨_, rfl⟩
            rw [hbx] at hsm HP3
            have HPR := Lib.hid hPr
            have HSM := Lib.hid hsm
            clear hsm hbx hPr r3 r6
            by_cases hng : (!(decide (x < 0) == decide (b < 0))) = true
            · have HS2 : Hid (bx = -Pr) := Lib.hid (by rw [← HSM.out]; exact if_pos hng)
              clear HSM
              have HPL2 : Hid (∀ W, Calls Tryd.prog 66 #[.agg #[.int .u64 (wd Tn 0), .int .u64 (wd Tn 1), .int .u64 (wd Tn 2), .int .u64 (wd Tn 3), .int .u64 (wd Tn 4), .int .u64 (wd Tn 5)], .int .u64 (mag x), .int .u64 (mag b)] W fun e w' => e = .returned (.agg #[.int .u64 (wd (Tn + Pr) 0), .int .u64 (wd (Tn + Pr) 1), .int .u64 (wd (Tn + Pr) 2), .int .u64 (wd (Tn + Pr) 3), .int .u64 (wd (Tn + Pr) 4), .int .u64 (wd (Tn + Pr) 5)]) ∧ Up W w') := Lib.hid fun W => r05_plusV Tn (mag x) (mag b) (Tn + Pr) v3 r4 r5 r1 r2 (by rw [HPR.out]) (by omega) W
              obtain ⟨d0, d1, d2, d3, d4, d5⟩ := G2.out.six
              have hp3 := p3
              go_wp2_with fail
              refine (HFD.out _ (HE.out.up HU.out)).mono ?_
              rintro e y ⟨rfl, hy⟩
              replace hy := hy.symm
              subst hy
              rw [show (foundF (some x)).1 = x from rfl, show (foundF (some x)).2 = true from rfl]
              go_wp2_with fail
              refine wp_region_ext_tail 11 (by kernel_rfl) (by kernel_rfl) ?_
              simp only [List.take_succ_cons, List.take_zero, List.drop_succ_cons, List.drop_zero]
              repeat (go_big_quiet_step (first | (go_at_call 67; exact Calls.ext_of (HSZ.out _ _ (by first | exact Or.inl rfl | exact Or.inr rfl))) | (go_at_call 66; exact Calls.ext_of (HPL2.out _))))
              refine wpQuiet_nil ?_
              intro x2 hx2
              clear d0 d1 d2 d3 d4 d5
              have HG1 := Lib.hid (G1.out.up hx2)
              have HG2 := Lib.hid (G2.out.up hx2)
              have HTT := Lib.hid (HT.out.trans (Up.two hx2 (by omega)))
              have HU5 := Lib.hid (HU.out.trans hx2)
              obtain ⟨d0, d1, d2, d3, d4, d5⟩ := HG2.out.six
              have fz := HG2.out.fz
              have l5 := HG2.out.lt
              have hss := hx2.size
              clear hx2
              go_wp2
              clear d0 d1 d2 d3 d4 d5 fz
              obtain ⟨W4, hW4⟩ : ∃ W4, put6 x2 (P + 1) (wd (Tn + Pr)) = W4 := ⟨_, rfl⟩
              have hpn : PNAt W4 P (acc + bx) (9223372036854775808 + ((k + 1 : Nat) : Int) * 85070591730234615865843651857942052864) := by
                rw [← hW4]
                have h1 := HS2.out
                have h2 := G5.out
                exact PNAt.neg HG1.out HG2.out (by omega) (by omega) (by omega)
              have hbt : UpBut (P + 1) x2 W4 := hW4 ▸ put6_but _ _ _
              have hq0 := HQ0.out
              have HU6 : Hid (Up w W4) := Lib.hid (UpBut.up HU5.out (by omega) hbt)
              have HT6 : Hid (UpTwo (P + 1 + 1) P (P + 1) W3 W4) := Lib.hid (HTT.out.trans (hbt.two2 (by omega)))
              unfold put6 at hW4
              rw [hW4]
              go_roundw
              case rel => exact ⟨k + 1, acc + bx, by omega, by go_num, HU6.out, HT6.out, hpn, HP3.out⟩
              case measure => simp [intOf]; omega
            · have hng2 : (!(decide (x < 0) == decide (b < 0))) = false := by simpa using hng
              have HS2 : Hid (bx = Pr) := Lib.hid (by rw [← HSM.out]; exact if_neg hng)
              clear HSM hng
              have HPL2 : Hid (∀ W, Calls Tryd.prog 66 #[.agg #[.int .u64 (wd Tp 0), .int .u64 (wd Tp 1), .int .u64 (wd Tp 2), .int .u64 (wd Tp 3), .int .u64 (wd Tp 4), .int .u64 (wd Tp 5)], .int .u64 (mag x), .int .u64 (mag b)] W fun e w' => e = .returned (.agg #[.int .u64 (wd (Tp + Pr) 0), .int .u64 (wd (Tp + Pr) 1), .int .u64 (wd (Tp + Pr) 2), .int .u64 (wd (Tp + Pr) 3), .int .u64 (wd (Tp + Pr) 4), .int .u64 (wd (Tp + Pr) 5)]) ∧ Up W w') := Lib.hid fun W => r05_plusV Tp (mag x) (mag b) (Tp + Pr) v1 r4 r5 r1 r2 (by rw [HPR.out]) (by omega) W
              obtain ⟨d0, d1, d2, d3, d4, d5⟩ := G1.out.six
              have hp3 := p3
              go_wp2_with fail
              refine (HFD.out _ (HE.out.up HU.out)).mono ?_
              rintro e y ⟨rfl, hy⟩
              replace hy := hy.symm
              subst hy
              rw [show (foundF (some x)).1 = x from rfl, show (foundF (some x)).2 = true from rfl]
              go_wp2_with fail
              refine wp_region_ext_tail 11 (by kernel_rfl) (by kernel_rfl) ?_
              simp only [List.take_succ_cons, List.take_zero, List.drop_succ_cons, List.drop_zero]
              repeat (go_big_quiet_step (first | (go_at_call 67; exact Calls.ext_of (HSZ.out _ _ (by first | exact Or.inl rfl | exact Or.inr rfl))) | (go_at_call 66; exact Calls.ext_of (HPL2.out _))))
              refine wpQuiet_nil ?_
              intro x2 hx2
              clear d0 d1 d2 d3 d4 d5
              have HG1 := Lib.hid (G1.out.up hx2)
              have HG2 := Lib.hid (G2.out.up hx2)
              have HTT := Lib.hid (HT.out.trans (Up.two hx2 (by omega)))
              have HU5 := Lib.hid (HU.out.trans hx2)
              obtain ⟨d0, d1, d2, d3, d4, d5⟩ := HG1.out.six
              have fz := HG1.out.fz
              have l5 := HG1.out.lt
              have hss := hx2.size
              clear hx2
              go_wp2
              clear d0 d1 d2 d3 d4 d5 fz
              obtain ⟨W4, hW4⟩ : ∃ W4, put6 x2 P (wd (Tp + Pr)) = W4 := ⟨_, rfl⟩
              have hpn : PNAt W4 P (acc + bx) (9223372036854775808 + ((k + 1 : Nat) : Int) * 85070591730234615865843651857942052864) := by
                rw [← hW4]
                have h1 := HS2.out
                have h2 := G5.out
                exact PNAt.pos HG1.out HG2.out (by omega) (by omega) (by omega)
              have hbt : UpBut P x2 W4 := hW4 ▸ put6_but _ _ _
              have hq0 := HQ0.out
              have HU6 : Hid (Up w W4) := Lib.hid (UpBut.up HU5.out (by omega) hbt)
              have HT6 : Hid (UpTwo (P + 1 + 1) P (P + 1) W3 W4) := Lib.hid (HTT.out.trans (hbt.two1 (by omega)))
              unfold put6 at hW4
              rw [hW4]
              go_roundw
              case rel => exact ⟨k + 1, acc + bx, by omega, by go_num, HU6.out, HT6.out, hpn, HP3.out⟩
              case measure => simp [intOf]; omega
        · have hlt2 : (n : Int) ≤ (k : Int) := by omega
          have HRE : Hid (r = evalR (some acc)) := Lib.hid (by
            rw [HRR.out, ← HP.out, List.drop_eq_nil_of_le (by rw [HN.out]; omega)]; rfl)
          have h5 := G5.out
          have hkk : (k : Int) ≤ 1000 := by omega
          clear HP HRR
          obtain ⟨d0, d1, d2, d3, d4, d5⟩ := G1.out.six
          obtain ⟨c0, c1, c2, c3, c4, c5⟩ := G2.out.six
          by_cases hneg : Tp < Tn
          · have HLS : Hid (∀ W, Calls Tryd.prog 69 #[.agg #[.int .u64 (wd Tp 0), .int .u64 (wd Tp 1), .int .u64 (wd Tp 2), .int .u64 (wd Tp 3), .int .u64 (wd Tp 4), .int .u64 (wd Tp 5)], .agg #[.int .u64 (wd Tn 0), .int .u64 (wd Tn 1), .int .u64 (wd Tn 2), .int .u64 (wd Tn 3), .int .u64 (wd Tn 4), .int .u64 (wd Tn 5)]] W fun e w' => e = .returned (.bool true) ∧ Up W w') := Lib.hid fun W => by
              have := r05_lessV Tp Tn v1 (by omega) v3 (by omega) W
              rw [decide_eq_true hneg] at this
              exact this
            obtain ⟨T, hT⟩ : ∃ T, Tn - Tp = T := ⟨_, rfl⟩
            have HMI : Hid (∀ W, Calls Tryd.prog 70 #[.agg #[.int .u64 (wd Tn 0), .int .u64 (wd Tn 1), .int .u64 (wd Tn 2), .int .u64 (wd Tn 3), .int .u64 (wd Tn 4), .int .u64 (wd Tn 5)], .agg #[.int .u64 (wd Tp 0), .int .u64 (wd Tp 1), .int .u64 (wd Tp 2), .int .u64 (wd Tp 3), .int .u64 (wd Tp 4), .int .u64 (wd Tp 5)]] W fun e w' => e = .returned (.agg #[.int .u64 (wd T 0), .int .u64 (wd T 1), .int .u64 (wd T 2), .int .u64 (wd T 3), .int .u64 (wd T 4), .int .u64 (wd T 5)]) ∧ Up W w') := Lib.hid fun W => r05_minusV Tn Tp T (by omega) (by omega) (by omega) hT W
            have hT0 : 0 < T := by omega
            have hTB : T < 6277101735386680763835789423207666416102355444464034512896 := by omega
            have hTA : Hid (acc = -T) := Lib.hid (by omega)
            clear hT h5 hneg
            go_wp2_with fail
            refine (HLS.out _).mono ?_
            rintro e y ⟨rfl, hy⟩
            have HGY1 := Lib.hid (G1.out.up hy)
            have HGY2 := Lib.hid (G2.out.up hy)
            have HUY := Lib.hid (HU.out.trans hy)
            clear d0 d1 d2 d3 d4 d5 c0 c1 c2 c3 c4 c5 hy
            obtain ⟨d0, d1, d2, d3, d4, d5⟩ := HGY1.out.six
            obtain ⟨c0, c1, c2, c3, c4, c5⟩ := HGY2.out.six
            go_wp2_with fail
            refine (HMI.out _).mono ?_
            rintro e z ⟨rfl, hz⟩
            have HUZ := Lib.hid (HUY.out.trans hz)
            clear d0 d1 d2 d3 d4 d5 c0 c1 c2 c3 c4 c5 hz HGY1 HGY2 HUY G1 G2
            obtain ⟨x0, x1⟩ := (wd_dig T).at (by omega : 0 < 6)
            obtain ⟨y0, y1⟩ := (wd_dig T).at (by omega : 1 < 6)
            by_cases hbig : T < 18446744073709551616
            · obtain ⟨e2, e3, e4, e5, e01⟩ := wd_small T (by omega) hTB hbig
              have f1 : IntKind.u64.wrap (wd T 1 * 4294967296) = wd T 1 * 4294967296 := by rw [IntKind.wrap_u64]; omega
              have f2 : IntKind.u64.wrap (wd T 0 + wd T 1 * 4294967296) = T := by rw [IntKind.wrap_u64]; omega
              clear e01
              by_cases hfit : T ≤ 9223372036854775808
              · have HRX : Hid (r = (-T, 0)) := Lib.hid (by rw [HRE.out, hTA.out]; exact if_pos (fit_true (by omega)))
                have g1 : 0 ≤ T - 1 ∨ T = 0 := by omega
                have g2 : 0 ≤ T - 1 := by omega
                have g3 : T - 1 ≤ 9223372036854775807 := by omega
                have g4 : wrap64 (T - 1) = T - 1 := by unfold wrap64; omega
                have g5 : wrap64 (-(T - 1)) = -(T - 1) := by unfold wrap64; omega
                have g6 : wrap64 (-(T - 1) - 1) = -(T - 1) - 1 := by unfold wrap64; omega
                go_wp2
                go_ret2
                refine ⟨ret_ii (by rw [HRX.out]; try (first | rfl | omega)) (by rw [HRX.out]), ?_⟩
                first | exact HUZ.out.alloc _ | exact Up.alloc HUZ.out _
              · have HRX : Hid (r = (0, 3)) := Lib.hid (by rw [HRE.out, hTA.out]; exact if_neg (by rw [fit_false (by omega)]; simp))
                go_wp2
                go_ret2
                exact ⟨ret_ii (by rw [HRX.out]) (by rw [HRX.out]), HUZ.out.alloc _⟩
            · have HRX : Hid (r = (0, 3)) := Lib.hid (by rw [HRE.out, hTA.out]; exact if_neg (by rw [fit_false (by omega)]; simp))
              rcases wd_great T (by omega) hTB hbig with h | ⟨h2, h⟩ | ⟨h2, h3, h⟩ | ⟨h2, h3, h4, h⟩
              all_goals
                have hb := bne_iff_ne.2 h
                have hb2 := beq_eq_false_iff_ne.2 h
                go_wp2
                go_ret2
                exact ⟨ret_ii (by rw [HRX.out]) (by rw [HRX.out]), HUZ.out.alloc _⟩
          · have HLS : Hid (∀ W, Calls Tryd.prog 69 #[.agg #[.int .u64 (wd Tp 0), .int .u64 (wd Tp 1), .int .u64 (wd Tp 2), .int .u64 (wd Tp 3), .int .u64 (wd Tp 4), .int .u64 (wd Tp 5)], .agg #[.int .u64 (wd Tn 0), .int .u64 (wd Tn 1), .int .u64 (wd Tn 2), .int .u64 (wd Tn 3), .int .u64 (wd Tn 4), .int .u64 (wd Tn 5)]] W fun e w' => e = .returned (.bool false) ∧ Up W w') := Lib.hid fun W => by
              have := r05_lessV Tp Tn v1 (by omega) v3 (by omega) W
              rw [decide_eq_false hneg] at this
              exact this
            obtain ⟨T, hT⟩ : ∃ T, Tp - Tn = T := ⟨_, rfl⟩
            have HMI : Hid (∀ W, Calls Tryd.prog 70 #[.agg #[.int .u64 (wd Tp 0), .int .u64 (wd Tp 1), .int .u64 (wd Tp 2), .int .u64 (wd Tp 3), .int .u64 (wd Tp 4), .int .u64 (wd Tp 5)], .agg #[.int .u64 (wd Tn 0), .int .u64 (wd Tn 1), .int .u64 (wd Tn 2), .int .u64 (wd Tn 3), .int .u64 (wd Tn 4), .int .u64 (wd Tn 5)]] W fun e w' => e = .returned (.agg #[.int .u64 (wd T 0), .int .u64 (wd T 1), .int .u64 (wd T 2), .int .u64 (wd T 3), .int .u64 (wd T 4), .int .u64 (wd T 5)]) ∧ Up W w') := Lib.hid fun W => r05_minusV Tp Tn T (by omega) (by omega) (by omega) hT W
            have hT0 : 0 ≤ T := by omega
            have hTB : T < 6277101735386680763835789423207666416102355444464034512896 := by omega
            have hTA : Hid (acc = T) := Lib.hid (by omega)
            clear hT h5 hneg
            go_wp2_with fail
            refine (HLS.out _).mono ?_
            rintro e y ⟨rfl, hy⟩
            have HGY1 := Lib.hid (G1.out.up hy)
            have HGY2 := Lib.hid (G2.out.up hy)
            have HUY := Lib.hid (HU.out.trans hy)
            clear d0 d1 d2 d3 d4 d5 c0 c1 c2 c3 c4 c5 hy
            obtain ⟨d0, d1, d2, d3, d4, d5⟩ := HGY1.out.six
            obtain ⟨c0, c1, c2, c3, c4, c5⟩ := HGY2.out.six
            go_wp2_with fail
            refine (HMI.out _).mono ?_
            rintro e z ⟨rfl, hz⟩
            have HUZ := Lib.hid (HUY.out.trans hz)
            clear d0 d1 d2 d3 d4 d5 c0 c1 c2 c3 c4 c5 hz HGY1 HGY2 HUY G1 G2
            obtain ⟨x0, x1⟩ := (wd_dig T).at (by omega : 0 < 6)
            obtain ⟨y0, y1⟩ := (wd_dig T).at (by omega : 1 < 6)
            by_cases hbig : T < 18446744073709551616
            · obtain ⟨e2, e3, e4, e5, e01⟩ := wd_small T (by omega) hTB hbig
              have f1 : IntKind.u64.wrap (wd T 1 * 4294967296) = wd T 1 * 4294967296 := by rw [IntKind.wrap_u64]; omega
              have f2 : IntKind.u64.wrap (wd T 0 + wd T 1 * 4294967296) = T := by rw [IntKind.wrap_u64]; omega
              clear e01
              by_cases hfit : T ≤ 9223372036854775807
              · have HRX : Hid (r = (T, 0)) := Lib.hid (by rw [HRE.out, hTA.out]; exact if_pos (fit_true (by omega)))
                have g1 : 0 ≤ T - 1 ∨ T = 0 := by omega
                have g2 : 0 ≤ T := by omega
                have g3 : T ≤ 9223372036854775807 := by omega
                have g4 : wrap64 T = T := by unfold wrap64; omega
                have g5 : True := trivial
                have g6 : True := trivial
                go_wp2
                go_ret2
                refine ⟨ret_ii (by rw [HRX.out]; try (first | rfl | omega)) (by rw [HRX.out]), ?_⟩
                first | exact HUZ.out.alloc _ | exact Up.alloc HUZ.out _
              · have HRX : Hid (r = (0, 3)) := Lib.hid (by rw [HRE.out, hTA.out]; exact if_neg (by rw [fit_false (by omega)]; simp))
                go_wp2
                go_ret2
                exact ⟨ret_ii (by rw [HRX.out]) (by rw [HRX.out]), HUZ.out.alloc _⟩
            · have HRX : Hid (r = (0, 3)) := Lib.hid (by rw [HRE.out, hTA.out]; exact if_neg (by rw [fit_false (by omega)]; simp))
              rcases wd_great T (by omega) hTB hbig with h | ⟨h2, h⟩ | ⟨h2, h3, h⟩ | ⟨h2, h3, h4, h⟩
              all_goals
                have hb := bne_iff_ne.2 h
                have hb2 := beq_eq_false_iff_ne.2 h
                go_wp2
                go_ret2
                exact ⟨ret_ii (by rw [HRX.out]) (by rw [HRX.out]), HUZ.out.alloc _⟩
end Go.Proofs.YtahlecmlhdikjaaDoor
