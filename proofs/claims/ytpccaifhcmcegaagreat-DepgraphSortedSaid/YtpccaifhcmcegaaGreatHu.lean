/-
  Joined by a program: SoA, SoB.
-/
import Derived.Test.YtpccaifhcmcegaaGreatHr
import Derived.Test.YtpccaifhcmcegaaGreatHt

section
namespace Go.Proofs.YtpccaifhcmcegaaGreat
set_option linter.unusedSimpArgs false
open Go.ChangeShapes Go.WideShapes Go.ChangeAt Go.RowKit
set_option linter.unusedVariables false
set_option maxRecDepth 100000

/-- All names of a form lie in one of two lists. -/
def knownB (l : List Mono) (vs ss : List ByteArray) : Bool := l.all fun m => has vs m.1 || has ss m.1
theorem known_drop {l : List Mono} {vs ss : List ByteArray} {i n : Nat} (hn : l.length = n) (hi : i < n) : knownB (l.drop i) vs ss = ((has vs (l[i]'(by omega)).1 || has ss (l[i]'(by omega)).1) && knownB (l.drop (i + 1)) vs ss) := by
  rw [drop_eq hn hi]; rfl
set_option maxHeartbeats 8000000 in
theorem r17_known (w : World) (lv vv sv : Value) (x : LinT) (vs ss : List ByteArray) (hl : AtV 2 linR w lv x) (hv : LsAt 1 16 strR w vv vs) (hs : LsAt 1 16 strR w sv ss) (r : Bool) (hr : knownB x.2 vs ss = r) :
    Calls Tryz.prog 42 #[lv, vv, sv] w fun e w' => e = .returned (.bool r) ∧ Up w w' := by
  obtain ⟨a, c, rfl, hls⟩ := hl.lin
  clear hl
  obtain ⟨K, l⟩ := x
  dsimp only at *
  obtain ⟨n, hn⟩ : ∃ n, l.length = n := ⟨_, rfl⟩
  have hnI : (n : Int) ≤ 140737488351232 := by have := hls.bytes; omega
  rw [hn] at hls ⊢
  have HL := Lib.hid hls
  have HN := Lib.hid hn
  have HV := Lib.hid (fun y (hy : Up w y) => hv.up strR_up hy)
  have HS := Lib.hid (fun y (hy : Up w y) => hs.up strR_up hy)
  have HR0 : Hid (knownB (l.drop 0) vs ss = r) := Lib.hid hr
  have HU := Lib.hid ((Up.refl w).alloc (.cells #[.int .i64 K, .slice a n c] 44))
  have HB := Lib.hid (BoxC.new w 44 #[.int .i64 K, .slice a n c])
  clear hls hn hv hs hr
  go_enter Tryz.func42, Tryz.ntmps42
  go_wp2
  go_loopw [7] (fun iv y => ∃ i : Nat, iv = .int .i64 i ∧ i ≤ n ∧ knownB (l.drop i) vs ss = r ∧ Up w y ∧ BoxC y w.heap.size 44 #[.int .i64 K, .slice a n c]) (fun iv _ => n - (intOf iv).toNat)
  case atStart => exact ⟨0, rfl, Nat.zero_le _, HR0.out, HU.out, HB.out⟩
  case round =>
    rename World => y
    obtain ⟨i, rfl, hi, hP, hup, hb⟩ := hrel
    have HUY := Lib.hid hup
    have HBY := Lib.hid hb
    have HP := Lib.hid hP
    have a1 : y.cell? ⟨w.heap.size, 1, none⟩ = some (.slice a n c) := hb.two.2
    have asz := hb.lt
    clear hup hb HU HB hP HR0
    by_cases hlt : i < n
    · have hltI : (i : Int) < n := by omega
      have hi1 : i < l.length := by rw [HN.out]; exact hlt
      obtain ⟨ga, oa, fa, rfl, hga, hfa, ha0, ha1⟩ := HL.out.elem i hi1
      have HD := Lib.hid (known_drop (vs := vs) (ss := ss) HN.out hlt)
      obtain ⟨x, hx⟩ : ∃ x, l[i] = x := ⟨_, rfl⟩
      rw [hx] at ha0 ha1
      have HD : Hid (knownB (l.drop i) vs ss = ((has vs x.1 || has ss x.1) && knownB (l.drop (i + 1)) vs ss)) := Lib.hid (by rw [HD.out, hx])
      obtain ⟨s, k⟩ := x
      dsimp only at ha0 ha1 HD
      have c0 := cell_up' HUY.out hga (hfa 0 (by decide))
      rw [ha0.1, Nat.add_zero] at c0
      have gas := Nat.lt_of_lt_of_le hga HUY.out.size
      obtain ⟨qa, hqa⟩ : ∃ q, has vs s = q := ⟨_, rfl⟩
      obtain ⟨qb, hqb⟩ : ∃ q, has ss s = q := ⟨_, rfl⟩
      have HA := Lib.hid (base_Has s vs vv y (HV.out y HUY.out) qa hqa)
      have HB := Lib.hid (base_Has s ss sv y (HS.out y HUY.out) qb hqb)
      have HD : Hid (((qa || qb) && knownB (l.drop (i + 1)) vs ss) = r) := Lib.hid (by rw [← hqa, ← hqb, ← HD.out]; exact HP.out)
      clear hx hi1 hfa ha0 ha1 hga hqa hqb
      cases qa
      · cases qb
        · have HF : Hid (r = false) := Lib.hid (by rw [← HD.out]; rfl)
          go_wp2_with (go_at_call 10; (first | (with_reducible refine (HA.out).mono ?_) | (with_reducible refine (HB.out).mono ?_)); rintro e z ⟨rfl, hz⟩; replace hz := hz.symm; subst hz)
          go_ret
          exact ⟨ret_bool HF.out.symm, HUY.out⟩
        · have HF : Hid (knownB (l.drop (i + 1)) vs ss = r) := Lib.hid (by rw [← HD.out]; rfl)
          go_wp2_with (go_at_call 10; (first | (with_reducible refine (HA.out).mono ?_) | (with_reducible refine (HB.out).mono ?_)); rintro e z ⟨rfl, hz⟩; replace hz := hz.symm; subst hz)
          go_roundw
          case rel => exact ⟨i + 1, by go_num, by omega, HF.out, HUY.out, HBY.out⟩
          case measure => simp [intOf]; omega
      · have HF : Hid (knownB (l.drop (i + 1)) vs ss = r) := Lib.hid (by rw [← HD.out]; rfl)
        go_wp2_with (go_at_call 10; (with_reducible refine (HA.out).mono ?_); rintro e z ⟨rfl, hz⟩; replace hz := hz.symm; subst hz)
        go_roundw
        case rel => exact ⟨i + 1, by go_num, by omega, HF.out, HUY.out, HBY.out⟩
        case measure => simp [intOf]; omega
    · obtain rfl : n = i := by omega
      have HF : Hid (r = true) := Lib.hid (by rw [← HP.out, List.drop_of_length_le (by rw [HN.out]; exact Nat.le_refl _)]; rfl)
      go_wp2
      go_ret
      exact ⟨ret_bool HF.out.symm, HUY.out⟩

/-- What form answers. -/
def formE (l : List Mono) (ss : List ByteArray) : Int := if okL l then (if knownB l [] ss then 0 else 9) else 1
theorem lin_u : ∃ d, Tryz.prog.underlying 44 = some d ∧ d.isRow = true := ⟨_, Tryz.underlying44, rfl⟩
theorem lin_i : (Tryz.prog.info? 44).map (·.size) = some 2 := by kernel_rfl
theorem base_LinRightV (w : World) (lv : Value) (x : LinT) (hl : AtV 2 linR w lv x) : Calls Tryz.prog 41 #[lv] w fun e w' => e = .returned (.bool (okL x.2)) ∧ Up w w' := by
  obtain ⟨a, c, rfl, hls⟩ := hl.lin
  exact base_LinRight' x.1 _ x.2 w hls
set_option maxHeartbeats 8000000 in
theorem r17_form (w : World) (lv sv : Value) (x : LinT) (ss : List ByteArray) (hl : AtV 2 linR w lv x) (hs : LsAt 1 16 strR w sv ss) (r : Int) (hr : formE x.2 ss = r) :
    Calls Tryz.prog 23 #[lv, sv] w fun e w' => e = .returned (.int .i64 r) ∧ Up w w' := by
  obtain ⟨cs, rfl, hc⟩ := id hl
  have HU := Lib.hid ((Up.refl w).alloc (.cells cs 44))
  have HB := Lib.hid (BoxC.new w 44 cs)
  obtain ⟨d1, hu1, hu2⟩ := lin_u
  have HLD := Lib.hid (fun y (hy : Up (w.alloc (.cells cs 44)) y) => run_cs (P := Tryz.prog) (k := 2) hu1 hu2 lin_i hc.1 ((HB.out.up hy).range))
  obtain ⟨q1, hq1⟩ : ∃ q, okL x.2 = q := ⟨_, rfl⟩
  obtain ⟨q2, hq2⟩ : ∃ q, knownB x.2 [] ss = q := ⟨_, rfl⟩
  have HLR := Lib.hid (fun y (hy : Up w y) => base_LinRightV y (.agg cs) x (hl.up linR_k hy))
  rw [hq1] at HLR
  have HKN := Lib.hid (fun y (hy : Up w y) => r17_known y (.agg cs) (.slice none 0 0) sv x [] ss (hl.up linR_k hy) (LsAt.nil _ _ _ _) (hs.up strR_up hy) q2 hq2)
  have HR : Hid ((if q1 then (if q2 then (0 : Int) else 9) else 1) = r) := Lib.hid (by rw [← hr, ← hq1, ← hq2]; rfl)
  have HL0 := Lib.hid (HLD.out _ (Up.refl _))
  clear hl hs hr hq1 hq2 hu1 hu2 hc
  go_enter Tryz.func23, Tryz.ntmps23
  go_wp2_with (refine st_load HL0.out (by rfl) ?_)
  refine (HLR.out _ HU.out).mono ?_
  rintro e y ⟨rfl, hy⟩
  have HUY := Lib.hid (HU.out.trans hy)
  have HL1 := Lib.hid (HLD.out _ hy)
  clear hy
  cases q1
  · have HF : Hid ((1 : Int) = r) := HR
    go_wp2
    go_ret
    exact ⟨ret_int HF.out, HUY.out⟩
  · go_wp2_with (refine st_load HL1.out (by rfl) ?_)
    refine (HKN.out _ HUY.out).mono ?_
    rintro e z ⟨rfl, hz⟩
    have HUZ := Lib.hid (HUY.out.trans hz)
    clear hz
    cases q2
    · have HF : Hid ((9 : Int) = r) := HR
      go_wp2
      go_ret
      exact ⟨ret_int HF.out, HUZ.out⟩
    · have HF : Hid ((0 : Int) = r) := HR
      go_wp2
      go_ret
      exact ⟨ret_int HF.out, HUZ.out⟩

/-- What name answers. -/
def nameE (s : ByteArray) (l : List ByteArray) : Int := if nameB s.toList then (if has l s then 8 else 0) else 7
set_option maxHeartbeats 8000000 in
theorem r17_name (w : World) (s : ByteArray) (v : Value) (l : List ByteArray) (hv : LsAt 1 16 strR w v l) (r : Int) (hr : nameE s l = r) :
    Calls Tryz.prog 40 #[.string s, v] w fun e w' => e = .returned (.int .i64 r) ∧ Up w w' := by
  obtain ⟨q1, hq1⟩ : ∃ q, nameB s.toList = q := ⟨_, rfl⟩
  obtain ⟨q2, hq2⟩ : ∃ q, has l s = q := ⟨_, rfl⟩
  have HNM := Lib.hid (fun y => base_Name s y)
  rw [hq1] at HNM
  have HHA := Lib.hid (fun y (hy : Up w y) => base_Has s l v y (hv.up strR_up hy) q2 hq2)
  have HR : Hid ((if q1 then (if q2 then (8 : Int) else 0) else 7) = r) := Lib.hid (by rw [← hr, ← hq1, ← hq2]; rfl)
  clear hr hq1 hq2 hv
  go_enter Tryz.func40, Tryz.ntmps40
  go_wp2_with fail
  refine (HNM.out _).mono ?_
  rintro e y ⟨rfl, hy⟩
  have HUY := Lib.hid hy
  clear hy
  cases q1
  · have HF : Hid ((7 : Int) = r) := HR
    go_wp2
    go_ret
    exact ⟨ret_int HF.out, HUY.out⟩
  · go_wp2_with fail
    refine (HHA.out _ HUY.out).mono ?_
    rintro e z ⟨rfl, hz⟩
    replace hz := hz.symm
    subst hz
    cases q2
    · have HF : Hid ((0 : Int) = r) := HR
      go_wp2
      go_ret
      exact ⟨ret_int HF.out, HUY.out⟩
    · have HF : Hid ((8 : Int) = r) := HR
      go_wp2
      go_ret
      exact ⟨ret_int HF.out, HUY.out⟩

/-- All forms of a list are known. -/
def formsB (l : List LinT) (vs ss : List ByteArray) : Bool := l.all fun x => knownB x.2 vs ss
theorem forms_drop {l : List LinT} {vs ss : List ByteArray} {i n : Nat} (hn : l.length = n) (hi : i < n) : formsB (l.drop i) vs ss = (knownB (l[i]'(by omega)).2 vs ss && formsB (l.drop (i + 1)) vs ss) := by
  rw [drop_eq hn hi]; rfl
set_option maxHeartbeats 8000000 in
theorem r17_forms (N : Nat) (w : World) (pv vv lv : Value) (p : Pg) (vs : List ByteArray) (l : List LinT) (hp : ProgAt N w pv p) (hv : LsAt 1 16 strR w vv vs) (hl : LsAt 2 32 linR w lv l) (E : Int) (hE : (if formsB l vs p.sizes then (0 : Int) else 9) = E) :
    Calls Tryz.prog 78 #[pv, vv, lv] w fun e w' => e = .returned (.int .i64 E) ∧ Up w w' := by
  obtain ⟨r, hr⟩ : ∃ r, formsB l vs p.sizes = r := ⟨_, rfl⟩
  rw [hr] at hE
  have HE := Lib.hid hE
  clear hE
  obtain ⟨a, c, rfl, -⟩ := hl.shape
  obtain ⟨sa, sc, ca, cc, pa, pc, da, dc, oa, oc, rfl, hs, -⟩ := hp.open
  obtain ⟨sizes, cons, pars, defs, outs⟩ := p
  dsimp only at *
  obtain ⟨sn, hsn⟩ : ∃ q, sizes.length = q := ⟨_, rfl⟩
  obtain ⟨cn, hcnn⟩ : ∃ q, cons.length = q := ⟨_, rfl⟩
  obtain ⟨pn, hpn⟩ : ∃ q, pars.length = q := ⟨_, rfl⟩
  obtain ⟨dn, hdn⟩ : ∃ q, defs.length = q := ⟨_, rfl⟩
  obtain ⟨on_, hon⟩ : ∃ q, outs.length = q := ⟨_, rfl⟩
  obtain ⟨n, hn⟩ : ∃ n, l.length = n := ⟨_, rfl⟩
  have hnI : (n : Int) ≤ 140737488351232 := by have := hl.bytes; omega
  rw [hn] at hl ⊢
  rw [hsn] at hs ⊢
  rw [hcnn, hpn, hdn, hon]
  have HL := Lib.hid hl
  have HN := Lib.hid hn
  have HV := Lib.hid (fun y (hy : Up w y) => hv.up strR_up hy)
  have HS := Lib.hid (fun y (hy : Up w y) => hs.up strR_up hy)
  have HR0 : Hid (formsB (l.drop 0) vs sizes = r) := Lib.hid hr
  have HU := Lib.hid ((Up.refl w).alloc (.cells #[.slice sa sn sc, .slice ca cn cc, .slice pa pn pc, .slice da dn dc, .slice oa on_ oc] 27))
  have HB := Lib.hid (BoxC.new w 27 #[.slice sa sn sc, .slice ca cn cc, .slice pa pn pc, .slice da dn dc, .slice oa on_ oc])
  clear hl hn hv hs hr hp hsn hcnn hpn hdn hon
  go_enter Tryz.func78, Tryz.ntmps78
  go_wp2
  go_loopw [7] (fun iv y => ∃ i : Nat, iv = .int .i64 i ∧ i ≤ n ∧ formsB (l.drop i) vs sizes = r ∧ Up w y ∧ BoxC y w.heap.size 27 #[.slice sa sn sc, .slice ca cn cc, .slice pa pn pc, .slice da dn dc, .slice oa on_ oc]) (fun iv _ => n - (intOf iv).toNat)
  case atStart => exact ⟨0, rfl, Nat.zero_le _, HR0.out, HU.out, HB.out⟩
  case round =>
    rename World => y
    obtain ⟨i, rfl, hi, hP, hup, hb⟩ := hrel
    have HUY := Lib.hid hup
    have HBY := Lib.hid hb
    have HP := Lib.hid hP
    have a0 : y.cell? ⟨w.heap.size, 0, none⟩ = some (.slice sa sn sc) := cell_of_row _ _ _ _ _ _ hb
    have asz := hb.lt
    clear hup hb HU HB hP HR0
    by_cases hlt : i < n
    · have hltI : (i : Int) < n := by omega
      have hi1 : i < l.length := by rw [HN.out]; exact hlt
      obtain ⟨ga, oa, cs, rfl, hga, hca, hra⟩ := HL.out.row linR_k i hi1
      obtain ⟨d1, hu1, hu2⟩ := lin_u
      have HLA := Lib.hid (fun z (hz : Up w z) => run_cs (P := Tryz.prog) (k := 2) hu1 hu2 lin_i hca.1 (hra z hz))
      have HD := Lib.hid (forms_drop (vs := vs) (ss := sizes) HN.out hlt)
      obtain ⟨q, hq⟩ : ∃ q, knownB l[i].2 vs sizes = q := ⟨_, rfl⟩
      have HC := Lib.hid (fun z (hz : Up w z) => r17_known z (.agg cs) vv (.slice sa sn sc) l[i] vs sizes (AtV.up linR_k ⟨cs, rfl, hca⟩ hz) (HV.out z hz) (HS.out z hz) q hq)
      have HD : Hid ((q && formsB (l.drop (i + 1)) vs sizes) = r) := Lib.hid (by rw [← hq, ← HD.out]; exact HP.out)
      have gas := Nat.lt_of_lt_of_le hga HUY.out.size
      clear hi1 hra hga hca hu1 hu2 hq
      go_upto_region 4 with fail
      refine wp_region_ext (by kernel_rfl) (by kernel_rfl) ?_
      iterate 3 (go_big_quiet_step (fail))
      refine wpQuiet_load (fun z hz => by obtain ⟨j, rfl⟩ := hz; exact HLA.out _ (HUY.out.trans j.up)) (by rfl) ?_
      simp only [Act.put, List.setIfInBounds_toArray, List.set_cons_succ, List.set_cons_zero]
      repeat (go_big_quiet_step ((go_at_call 42; exact Calls.ext_of (HC.out _ (HUY.out.trans (Ext.up _))))))
      refine wpQuiet_nil ?_
      intro z hz
      have HUZ := Lib.hid (HUY.out.trans hz)
      have HBZ := Lib.hid (HBY.out.up hz)
      clear hz gas a0 asz
      cases q
      · have HF : Hid (r = false) := Lib.hid (by rw [← HD.out]; rfl)
        go_wp2
        go_ret
        exact ⟨ret_int (by rw [← HE.out, HF.out]; rfl), HUZ.out⟩
      · have HF : Hid (formsB (l.drop (i + 1)) vs sizes = r) := Lib.hid (by rw [← HD.out]; rfl)
        go_wp2
        go_roundw
        case rel => exact ⟨i + 1, by go_num, by omega, HF.out, HUZ.out, HBZ.out⟩
        case measure => simp [intOf]; omega
    · obtain rfl : n = i := by omega
      have HF : Hid (r = true) := Lib.hid (by rw [← HP.out, List.drop_of_length_le (by rw [HN.out]; exact Nat.le_refl _)]; rfl)
      go_wp2
      go_ret
      exact ⟨ret_int (by rw [← HE.out, HF.out]; rfl), HUY.out⟩
end Go.Proofs.YtpccaifhcmcegaaGreat
end

section
namespace Go.Proofs.YtpccaifhcmcegaaGreat
set_option linter.unusedSimpArgs false
open Go.ChangeShapes Go.WideShapes Go.ChangeAt Go.RowKit
set_option linter.unusedVariables false
set_option maxRecDepth 100000

/-- The cells of an index. -/
theorem LsAt.ix4 {w : World} {a : Option Addr} {n c : Nat} {l : List Ix} (h : LsAt 4 72 ixR w (.slice a n c) l) (i : Nat) (hi : i < l.length) :
    ∃ (g o : Nat) (la : Option Addr) (lc : Nat) (ta : Option Addr) (tc : Nat), a = some ⟨g, o, none⟩ ∧ g < w.heap.size ∧ w.cell? ⟨g, o + i * 4, none⟩ = some (.int .i64 l[i].1.1) ∧ w.cell? ⟨g, o + i * 4 + 1, none⟩ = some (.slice la l[i].1.2.length lc) ∧ w.cell? ⟨g, o + i * 4 + 2, none⟩ = some (.string l[i].2.1) ∧ w.cell? ⟨g, o + i * 4 + 3, none⟩ = some (.slice ta l[i].2.2.length tc) ∧
      LsAt 2 24 monR w (.slice la l[i].1.2.length lc) l[i].1.2 ∧ LsAt 2 32 linR w (.slice ta l[i].2.2.length tc) l[i].2.2 ∧ l[i].2.1.size ≤ maxLen := by
  obtain ⟨g, o, f, h1, h2, h3, ⟨h4, h5⟩, ⟨h6, h6'⟩, h7⟩ := h.elem i hi
  obtain ⟨la, lc, e1, _⟩ := h5.shape
  obtain ⟨ta, tc, e3, _⟩ := h7.shape
  refine ⟨g, o, la, lc, ta, tc, h1, h2, ?_, ?_, ?_, ?_, e1 ▸ h5, e3 ▸ h7, h6'⟩
  · rw [← Nat.add_zero (o + i * 4), h3 0 (by decide), h4]
  · rw [h3 1 (by decide), e1]
  · rw [h3 2 (by decide), h6]
  · rw [h3 3 (by decide), e3]
/-- A number of at most B. -/
def NatQ (B : Nat) (w : World) (e : Ending) (w' : World) : Prop := ∃ r : Nat, e = .returned (.int .i64 r) ∧ Up w w' ∧ r ≤ B
def condB (op : Int) : Bool := decide (13 ≤ op) && decide (op ≤ 18)
set_option maxHeartbeats 4000000 in
theorem r14_IsCondition (N : Nat) (e : Ex) (v : Value) (w : World) (hv : ExAt N w v e) (r : Bool) (hr : condB (opE e) = r) :
    Calls Tryz.prog 63 #[v] w fun e' w' => e' = .returned (.bool r) ∧ Up w w' := by
  cases N with
  | zero => obtain ⟨_, _, h⟩ := hv; exact h.elim
  | succ N =>
  obtain ⟨op, nm, A, d, t0, t1, t2, t3, t4, K, la, lc, xa, xc, ra, rc, ms, ix, args, rfl, rfl, hnm, hL, hX, hR⟩ := hv.open
  obtain ⟨ln, hln⟩ : ∃ q, ms.length = q := ⟨_, rfl⟩
  obtain ⟨xn, hxn⟩ : ∃ q, ix.length = q := ⟨_, rfl⟩
  obtain ⟨rn, hrn⟩ : ∃ q, args.length = q := ⟨_, rfl⟩
  have hlnI : (ln : Int) ≤ 140737488351232 := by have := hL.bytes; omega
  have hxnI : (xn : Int) ≤ 140737488351232 := by have := hX.bytes; omega
  have hrnI : (rn : Int) ≤ 140737488351232 := by have := hR.bytes; omega
  rw [hln] at hL
  rw [hxn] at hX
  rw [hrn] at hR
  rw [hln, hxn, hrn]
  have HL := Lib.hid hL
  have HX := Lib.hid hX
  have HR := Lib.hid hR
  have HLN := Lib.hid hln
  have HXN := Lib.hid hxn
  have HRN := Lib.hid hrn
  have HNM := Lib.hid hnm
  have HU := Lib.hid ((Up.refl w).alloc (.cells #[.int .i64 op, .string nm, .int .i64 A, .int .i64 d, .int .i64 t0, .int .i64 t1, .int .i64 t2, .int .i64 t3, .int .i64 t4, .int .i64 K, .slice la ln lc, .slice xa xn xc, .slice ra rn rc] 48))
  have HB := Lib.hid (BoxC.new w 48 #[.int .i64 op, .string nm, .int .i64 A, .int .i64 d, .int .i64 t0, .int .i64 t1, .int .i64 t2, .int .i64 t3, .int .i64 t4, .int .i64 K, .slice la ln lc, .slice xa xn xc, .slice ra rn rc])
  clear hL hX hR hln hxn hrn hnm

  have HRR : Hid (condB op = r) := Lib.hid hr
  clear hr hv
  by_cases h1 : 13 ≤ op
  · by_cases h2 : op ≤ 18
    · have q1 : decide (13 ≤ op) = true := decide_eq_true h1
      have q2 : decide (op ≤ 18) = true := decide_eq_true h2
      have HF : Hid (r = true) := Lib.hid (by rw [← HRR.out, condB, q1, q2]; rfl)
      go_enter Tryz.func63, Tryz.ntmps63
      go_wp2
      go_ret
      exact ⟨ret_bool HF.out.symm, HU.out⟩
    · have q1 : decide (13 ≤ op) = true := decide_eq_true h1
      have q2 : decide (op ≤ 18) = false := decide_eq_false h2
      have HF : Hid (r = false) := Lib.hid (by rw [← HRR.out, condB, q1, q2]; rfl)
      go_enter Tryz.func63, Tryz.ntmps63
      go_wp2
      go_ret
      exact ⟨ret_bool HF.out.symm, HU.out⟩
  · have q1 : decide (13 ≤ op) = false := decide_eq_false h1
    have HF : Hid (r = false) := Lib.hid (by rw [← HRR.out, condB, q1]; rfl)
    go_enter Tryz.func63, Tryz.ntmps63
    go_wp2
    go_ret
    exact ⟨ret_bool HF.out.symm, HU.out⟩

/-- The number of operands. -/
def argsN (op : Int) : Int := if op = 1 ∨ op = 2 ∨ op = 3 then 0 else if op = 8 ∨ op = 12 ∨ op = 18 then 1 else if op = 11 then 3 else 2
set_option maxHeartbeats 4000000 in
theorem r14_args (op : Int) (w : World) (r : Int) (hr : argsN op = r) :
    Calls Tryz.prog 101 #[.int .i64 op] w fun e' w' => e' = .returned (.int .i64 r) ∧ Up w w' := by
  have HR := Lib.hid hr
  clear hr
  go_enter Tryz.func101, Tryz.ntmps101
  go_wp2
  all_goals try simp only [Bool.not_eq_false', Bool.not_eq_true', bne_iff_ne, ne_eq, bne_eq_false_iff_eq, beq_iff_eq, beq_eq_false_iff_ne, decide_eq_true_eq, decide_eq_false_iff_not] at *
  all_goals
    go_ret
    exact ⟨ret_int (by rw [← HR.out, argsN]; (repeat' split) <;> omega), Up.refl _⟩
set_option maxHeartbeats 4000000 in
theorem r14_wants (op at_ : Int) (w : World) :
    Calls Tryz.prog 102 #[.int .i64 op, .int .i64 at_] w fun e' w' => e' = .returned (.bool ((decide (op = 11) && decide (at_ = 0)) || decide (op = 16) || decide (op = 17) || decide (op = 18))) ∧ Up w w' := by
  obtain ⟨r, hr⟩ : ∃ r, ((decide (op = 11) && decide (at_ = 0)) || decide (op = 16) || decide (op = 17) || decide (op = 18)) = r := ⟨_, rfl⟩
  rw [hr]
  have HR := Lib.hid hr
  clear hr
  go_enter Tryz.func102, Tryz.ntmps102
  go_wp2
  all_goals try simp only [Bool.not_eq_false', Bool.not_eq_true', bne_iff_ne, ne_eq, bne_eq_false_iff_eq, beq_iff_eq, beq_eq_false_iff_ne, decide_eq_true_eq, decide_eq_false_iff_not] at *
  all_goals
    go_ret
    exact ⟨ret_bool (by rw [← HR.out, Bool.eq_iff_iff]; simp; omega), Up.refl _⟩

set_option maxHeartbeats 8000000 in
theorem size_step (N : Nat) (ih : ∀ (e : Ex) (v : Value) (most : Nat) (hm : most ≤ 2000) (w : World) (hv : ExAt N w v e) (ht : tot e ≤ 1500), Calls Tryz.prog 84 #[v, .int .i64 most] w fun e' w' => NatQ (tot e) w e' w')
    (e : Ex) (v : Value) (most : Nat) (hm : most ≤ 2000) (w : World) (hv : ExAt (N + 1) w v e) (ht : tot e ≤ 1500) : Calls Tryz.prog 84 #[v, .int .i64 most] w fun e' w' => NatQ (tot e) w e' w' := by
  have HIH := Lib.hid ih
  clear ih
  obtain ⟨op, nm, A, d, t0, t1, t2, t3, t4, K, la, lc, xa, xc, ra, rc, ms, ix, args, rfl, rfl, hnm, hL, hX, hR⟩ := hv.open
  obtain ⟨ln, hln⟩ : ∃ q, ms.length = q := ⟨_, rfl⟩
  obtain ⟨xn, hxn⟩ : ∃ q, ix.length = q := ⟨_, rfl⟩
  obtain ⟨rn, hrn⟩ : ∃ q, args.length = q := ⟨_, rfl⟩
  have hlnI : (ln : Int) ≤ 140737488351232 := by have := hL.bytes; omega
  have hxnI : (xn : Int) ≤ 140737488351232 := by have := hX.bytes; omega
  have hrnI : (rn : Int) ≤ 140737488351232 := by have := hR.bytes; omega
  rw [hln] at hL
  rw [hxn] at hX
  rw [hrn] at hR
  rw [hln, hxn, hrn]
  have HL := Lib.hid hL
  have HX := Lib.hid hX
  have HR := Lib.hid hR
  have HLN := Lib.hid hln
  have HXN := Lib.hid hxn
  have HRN := Lib.hid hrn
  have HNM := Lib.hid hnm
  have HU := Lib.hid ((Up.refl w).alloc (.cells #[.int .i64 op, .string nm, .int .i64 A, .int .i64 d, .int .i64 t0, .int .i64 t1, .int .i64 t2, .int .i64 t3, .int .i64 t4, .int .i64 K, .slice la ln lc, .slice xa xn xc, .slice ra rn rc] 48))
  have HB := Lib.hid (BoxC.new w 48 #[.int .i64 op, .string nm, .int .i64 A, .int .i64 d, .int .i64 t0, .int .i64 t1, .int .i64 t2, .int .i64 t3, .int .i64 t4, .int .i64 K, .slice la ln lc, .slice xa xn xc, .slice ra rn rc])
  clear hL hX hR hln hxn hrn hnm

  clear hv
  obtain ⟨T, hT⟩ : ∃ T, tot (.mk op nm A d (t0, t1, t2, t3, t4) (K, ms) ix args) = T := ⟨_, rfl⟩
  have HTA : Hid (1 + tots args ≤ T) := Lib.hid (by rw [← hT, tot]; omega)
  rw [hT] at ht ⊢
  clear hT
  have hmI : (most : Int) ≤ 2000 := by omega
  go_enter Tryz.func84, Tryz.ntmps84
  go_wp2
  go_loopw [5, 6] (fun nv iv y => ∃ (q i : Nat), nv = .int .i64 q ∧ iv = .int .i64 i ∧ i ≤ rn ∧ q ≤ 1 + tots (args.take i) ∧ Up w y ∧ BoxC y w.heap.size 48 #[.int .i64 op, .string nm, .int .i64 A, .int .i64 d, .int .i64 t0, .int .i64 t1, .int .i64 t2, .int .i64 t3, .int .i64 t4, .int .i64 K, .slice la ln lc, .slice xa xn xc, .slice ra rn rc]) (fun _ iv _ => rn - (intOf iv).toNat)
  case atStart => exact ⟨1, 0, rfl, rfl, Nat.zero_le _, by omega, HU.out, HB.out⟩
  case round =>
    rename World => y
    obtain ⟨q, i, rfl, rfl, hi, hq, hup, hb⟩ := hrel
    have HUY := Lib.hid hup
    have HBY := Lib.hid hb
    have b12 : y.cell? ⟨w.heap.size, 12, none⟩ = some (.slice ra rn rc) := cell_of_row _ _ _ _ _ _ hb
    have bs := hb.lt
    have htk : tots (args.take i) ≤ tots args := by
      conv => rhs; rw [← List.take_append_drop i args, tots_app]
      omega
    have hqT : q ≤ T := by have := HTA.out; omega
    have hqI : (q : Int) ≤ 1500 := by omega
    have HQ := Lib.hid hq
    clear hup hb HU HB htk hq
    by_cases hlt : i < rn
    · have hltI : (i : Int) < rn := by omega
      by_cases hle : q ≤ most
      · have hleI : (q : Int) ≤ most := by omega
        have hi1 : i < args.length := by rw [HRN.out]; exact hlt
        obtain ⟨ga, oa, cs, rfl, hga, hca, hra⟩ := HR.out.row (exR_k N) i hi1
        have HW3 := Lib.hid (tots_take hi1)
        have htm := tots_mem hi1
        obtain ⟨e3, he3⟩ : ∃ e, args[i] = e := ⟨_, rfl⟩
        rw [he3] at HW3 hca htm
        have hte : tot e3 ≤ 1500 := by have := HTA.out; omega
        have gas := Nat.lt_of_lt_of_le hga HUY.out.size
        have HLD := Lib.hid (run_ex hca.1 (hra y HUY.out))
        obtain ⟨m2, hm2⟩ : ∃ m2 : Nat, (m2 : Int) = (most : Int) - q := ⟨most - q, by omega⟩
        have HCL := Lib.hid (HIH.out e3 _ m2 (by omega) y (hca.ex.up HUY.out) hte)
        have hsub : (most : Int) - q = m2 := hm2.symm
        have HTK : Hid (tots (args.take (i + 1)) ≤ tots args) := Lib.hid (by
          conv => rhs; rw [← List.take_append_drop (i + 1) args, tots_app]
          omega)
        clear hra hca hi1 hga he3 hm2 htm
        go_wp2_with (first | (refine st_load HLD.out (by rfl) ?_) | (go_at_call 84; (with_reducible refine HCL.out.mono ?_); rintro e' z ⟨r, rfl, hz, hr⟩; have HUZ := Lib.hid (HUY.out.trans hz); have HBZ := Lib.hid (HBY.out.up hz); have HRT := Lib.hid hr; have hrI : (r : Int) ≤ 1500 := (by omega); clear hz hr))
        have HQ2 : Hid (q + r ≤ 1 + tots (args.take (i + 1))) := Lib.hid (by have := HQ.out; have := HRT.out; have := HW3.out; omega)
        go_roundw
        case rel => exact ⟨q + r, i + 1, by go_num, by go_num, by omega, HQ2.out, HUZ.out, HBZ.out⟩
        case measure => simp [intOf]; omega
      · have hleI : ¬ (q : Int) ≤ most := by omega
        have hd : decide ((q : Int) ≤ most) = false := decide_eq_false hleI
        go_wp2
        go_ret
        exact ⟨q, rfl, HUY.out, hqT⟩
    · have hltI : ¬ (i : Int) < rn := by omega
      go_wp2
      go_ret
      exact ⟨q, rfl, HUY.out, hqT⟩
theorem r14_size (n : Nat) : ∀ (e : Ex) (v : Value) (most : Nat) (hm : most ≤ 2000) (w : World) (hv : ExAt n w v e) (ht : tot e ≤ 1500), Calls Tryz.prog 84 #[v, .int .i64 most] w fun e' w' => NatQ (tot e) w e' w' := by
  induction n with
  | zero => intro e v most hm w hv; obtain ⟨_, _, h⟩ := hv; exact h.elim
  | succ N ih => exact fun e v most hm w hv ht => size_step N ih e v most hm w hv ht

set_option maxHeartbeats 8000000 in
theorem depth_step (N : Nat) (ih : ∀ (e : Ex) (v : Value) (most : Nat) (h1 : 1 ≤ most) (hm : most ≤ 41) (w : World) (hv : ExAt N w v e), Calls Tryz.prog 83 #[v, .int .i64 most] w fun e' w' => NatQ most w e' w')
    (e : Ex) (v : Value) (most : Nat) (h1 : 1 ≤ most) (hm : most ≤ 41) (w : World) (hv : ExAt (N + 1) w v e) : Calls Tryz.prog 83 #[v, .int .i64 most] w fun e' w' => NatQ most w e' w' := by
  have HIH := Lib.hid ih
  clear ih
  obtain ⟨op, nm, A, d, t0, t1, t2, t3, t4, K, la, lc, xa, xc, ra, rc, ms, ix, args, rfl, rfl, hnm, hL, hX, hR⟩ := hv.open
  obtain ⟨ln, hln⟩ : ∃ q, ms.length = q := ⟨_, rfl⟩
  obtain ⟨xn, hxn⟩ : ∃ q, ix.length = q := ⟨_, rfl⟩
  obtain ⟨rn, hrn⟩ : ∃ q, args.length = q := ⟨_, rfl⟩
  have hlnI : (ln : Int) ≤ 140737488351232 := by have := hL.bytes; omega
  have hxnI : (xn : Int) ≤ 140737488351232 := by have := hX.bytes; omega
  have hrnI : (rn : Int) ≤ 140737488351232 := by have := hR.bytes; omega
  rw [hln] at hL
  rw [hxn] at hX
  rw [hrn] at hR
  rw [hln, hxn, hrn]
  have HL := Lib.hid hL
  have HX := Lib.hid hX
  have HR := Lib.hid hR
  have HLN := Lib.hid hln
  have HXN := Lib.hid hxn
  have HRN := Lib.hid hrn
  have HNM := Lib.hid hnm
  have HU := Lib.hid ((Up.refl w).alloc (.cells #[.int .i64 op, .string nm, .int .i64 A, .int .i64 d, .int .i64 t0, .int .i64 t1, .int .i64 t2, .int .i64 t3, .int .i64 t4, .int .i64 K, .slice la ln lc, .slice xa xn xc, .slice ra rn rc] 48))
  have HB := Lib.hid (BoxC.new w 48 #[.int .i64 op, .string nm, .int .i64 A, .int .i64 d, .int .i64 t0, .int .i64 t1, .int .i64 t2, .int .i64 t3, .int .i64 t4, .int .i64 K, .slice la ln lc, .slice xa xn xc, .slice ra rn rc])
  clear hL hX hR hln hxn hrn hnm

  clear hv
  have hmI : (most : Int) ≤ 41 := by omega
  go_enter Tryz.func83, Tryz.ntmps83
  go_wp2
  go_loopw [5, 6] (fun nv iv y => ∃ (q i : Nat), nv = .int .i64 q ∧ iv = .int .i64 i ∧ i ≤ rn ∧ q ≤ most ∧ Up w y ∧ BoxC y w.heap.size 48 #[.int .i64 op, .string nm, .int .i64 A, .int .i64 d, .int .i64 t0, .int .i64 t1, .int .i64 t2, .int .i64 t3, .int .i64 t4, .int .i64 K, .slice la ln lc, .slice xa xn xc, .slice ra rn rc]) (fun _ iv _ => rn - (intOf iv).toNat)
  case atStart => exact ⟨1, 0, rfl, rfl, Nat.zero_le _, h1, HU.out, HB.out⟩
  case round =>
    rename World => y
    obtain ⟨q, i, rfl, rfl, hi, hq, hup, hb⟩ := hrel
    have HUY := Lib.hid hup
    have HBY := Lib.hid hb
    have b12 : y.cell? ⟨w.heap.size, 12, none⟩ = some (.slice ra rn rc) := cell_of_row _ _ _ _ _ _ hb
    have bs := hb.lt
    have hqI : (q : Int) ≤ 41 := by omega
    clear hup hb HU HB
    by_cases hlt : i < rn
    · have hltI : (i : Int) < rn := by omega
      by_cases hle : 1 < most
      · have hleI : (1 : Int) < most := by omega
        have hi1 : i < args.length := by rw [HRN.out]; exact hlt
        obtain ⟨ga, oa, cs, rfl, hga, hca, hra⟩ := HR.out.row (exR_k N) i hi1
        obtain ⟨e3, he3⟩ : ∃ e, args[i] = e := ⟨_, rfl⟩
        rw [he3] at hca
        have gas := Nat.lt_of_lt_of_le hga HUY.out.size
        have HLD := Lib.hid (run_ex hca.1 (hra y HUY.out))
        obtain ⟨m2, hm2⟩ : ∃ m2 : Nat, (m2 : Int) = (most : Int) - 1 := ⟨most - 1, by omega⟩
        have HCL := Lib.hid (HIH.out e3 _ m2 (by omega) (by omega) y (hca.ex.up HUY.out))
        have hsub : (most : Int) - 1 = m2 := hm2.symm
        have HM2 := Lib.hid hm2
        clear hra hca hi1 hga he3 hm2
        go_wp2_with (refine st_load HLD.out (by rfl) ?_)
        refine HCL.out.mono ?_
        rintro e' z ⟨r, rfl, hz, hr⟩
        have HUZ := Lib.hid (HUY.out.trans hz)
        have HBZ := Lib.hid (HBY.out.up hz)
        have hr2 : r + 1 ≤ most := by have := HM2.out; omega
        have hrI : (r : Int) ≤ 41 := by omega
        clear hz hr
        by_cases hmx : q ≤ r + 1
        · have i1 : (q : Int) ≤ 1 + r := by omega
          go_wp2
          go_roundw
          case rel => exact ⟨1 + r, i + 1, by go_num, by go_num, by omega, by omega, HUZ.out, HBZ.out⟩
          case measure => simp [intOf]; omega
        · have i1 : ¬ (q : Int) ≤ 1 + r := by omega
          have i2 : (1 : Int) + r ≤ q := by omega
          go_wp2
          go_roundw
          case rel => exact ⟨q, i + 1, by go_num, by go_num, by omega, hq, HUZ.out, HBZ.out⟩
          case measure => simp [intOf]; omega
      · have hleI : ¬ (1 : Int) < most := by omega
        have hd : decide ((1 : Int) < most) = false := decide_eq_false hleI
        go_wp2
        go_ret
        exact ⟨q, rfl, HUY.out, hq⟩
    · have hltI : ¬ (i : Int) < rn := by omega
      go_wp2
      go_ret
      exact ⟨q, rfl, HUY.out, hq⟩
theorem r14_depth (n : Nat) : ∀ (e : Ex) (v : Value) (most : Nat) (h1 : 1 ≤ most) (hm : most ≤ 41) (w : World) (hv : ExAt n w v e), Calls Tryz.prog 83 #[v, .int .i64 most] w fun e' w' => NatQ most w e' w' := by
  induction n with
  | zero => intro e v most h1 hm w hv; obtain ⟨_, _, h⟩ := hv; exact h.elim
  | succ N ih => exact fun e v most h1 hm w hv => depth_step N ih e v most h1 hm w hv
theorem ExAt.cs {N : Nat} {w : World} {v : Value} {e : Ex} (h : ExAt N w v e) : ∃ cs : Array Value, v = .agg cs ∧ cs.size = 13 := by
  obtain ⟨f, rfl, -⟩ := h
  exact ⟨_, rfl, rfl⟩
/-- A box of an expression's parameter: its load. -/
theorem ex_load {w : World} {cs : Array Value} (hs : cs.size = 13) {y : World} (hy : Up (w.alloc (.cells cs 48)) y) : (Instr.loadAt 48 (.pointer (some ⟨w.heap.size, 0, none⟩))).run Tryz.prog y = .ok (.agg cs) y :=
  run_ex hs ((BoxC.new w 48 cs).up hy).range
set_option maxHeartbeats 4000000 in
theorem r14_Depth (N : Nat) (e : Ex) (v : Value) (w : World) (hv : ExAt N w v e) : Calls Tryz.prog 75 #[v] w fun e' w' => NatQ 41 w e' w' := by
  obtain ⟨cs, rfl, hs⟩ := hv.cs
  have HU := Lib.hid ((Up.refl w).alloc (.cells cs 48))
  have HLD := Lib.hid (ex_load (w := w) hs (Up.refl _))
  have HC := Lib.hid (r14_depth N e (.agg cs) 41 (by decide) (by decide) _ (hv.up HU.out))
  clear hv hs
  go_enter Tryz.func75, Tryz.ntmps75
  go_wp2_with (refine st_load HLD.out (by rfl) ?_)
  refine HC.out.mono ?_
  rintro e' z ⟨r, rfl, hz, hr⟩
  have HUZ := Lib.hid (HU.out.trans hz)
  have HRR := Lib.hid hr
  clear hz hr
  go_wp2
  go_ret
  exact ⟨r, rfl, HUZ.out, HRR.out⟩
set_option maxHeartbeats 4000000 in
theorem r14_Size (N : Nat) (e : Ex) (v : Value) (w : World) (hv : ExAt N w v e) (ht : tot e ≤ 1500) : Calls Tryz.prog 76 #[v] w fun e' w' => NatQ 1500 w e' w' := by
  obtain ⟨cs, rfl, hs⟩ := hv.cs
  have HU := Lib.hid ((Up.refl w).alloc (.cells cs 48))
  have HLD := Lib.hid (ex_load (w := w) hs (Up.refl _))
  have HC := Lib.hid (r14_size N e (.agg cs) 2000 (by decide) _ (hv.up HU.out) ht)
  have HT := Lib.hid ht
  clear hv hs ht
  go_enter Tryz.func76, Tryz.ntmps76
  go_wp2_with (refine st_load HLD.out (by rfl) ?_)
  refine HC.out.mono ?_
  rintro e' z ⟨r, rfl, hz, hr⟩
  have HUZ := Lib.hid (HU.out.trans hz)
  have hrI : (r : Int) ≤ 1500 := by have := HT.out; omega
  clear hz hr
  have hmn : min (r : Int) 2001 = r := Int.min_eq_left (by omega)
  go_wp2
  go_ret
  exact ⟨r, by first | rfl | exact ret_int hmn, HUZ.out, by omega⟩
end Go.Proofs.YtpccaifhcmcegaaGreat
end
