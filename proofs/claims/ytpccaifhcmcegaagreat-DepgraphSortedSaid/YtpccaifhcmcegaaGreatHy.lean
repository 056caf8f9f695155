/-
  Joined by a program: SoM, MdL, SoP.
-/
import Derived.Test.YtpccaifhcmcegaaGreatSoK
import Derived.Test.YtpccaifhcmcegaaGreatHc
import Derived.Test.YtpccaifhcmcegaaGreatHn
import Derived.Test.YtpccaifhcmcegaaGreatHl

section
namespace Go.Proofs.YtpccaifhcmcegaaGreat
set_option linter.unusedSimpArgs false
open Go.ChangeShapes Go.WideShapes Go.ChangeAt Go.RowKit
set_option linter.unusedVariables false
set_option maxRecDepth 100000

set_option maxHeartbeats 16000000 in
theorem r17_TypeOf (N n : Nat) (w : World) (pv vv v : Value) (p : Pg) (vs : List ByteArray) (e : Ex) (hp : ProgAt N w pv p) (hb : ∀ d ∈ p.defs, d.dims.length ≤ 1500) (hvv : LsAt 1 16 strR w vv vs) (hv : ExAt n w v e) (ht : tot e ≤ 1500) :
    Calls Tryz.prog 46 #[pv, vv, v] w fun e' w' => TypQ (ReadsP p e) w e' w' := by
  have HVA := Lib.hid (fun y (hy : Up w y) => r14_Validate n e v y (hv.up hy) ht)
  have HIC := Lib.hid (fun y (hy : Up w y) => r14_IsCondition n e v y (hv.up hy) _ rfl)
  have HNO := Lib.hid (fun hN y (hy : Up w y) => r17_node N n w pv vv p vs hp hb hvv e v y hy (hv.up hy) hN)
  obtain ⟨cs, rfl, hs⟩ := hv.cs
  obtain ⟨ps, rfl, hps⟩ : ∃ ps : Array Value, pv = .agg ps ∧ ps.size = 5 := by obtain ⟨_, _, _, _, _, e, _⟩ := hp; exact ⟨_, e, rfl⟩
  obtain ⟨qc, hqc⟩ : ∃ q, condB (opE e) = q := ⟨_, rfl⟩
  rw [hqc] at HIC
  have HU := Lib.hid ((((Up.refl w).alloc (.cells ps 27)).alloc (.cells cs 48)).alloc (.cells #[.int .i64 0, .int .i64 0, .int .i64 0, .int .i64 0, .int .i64 0] 38))
  have HBP := Lib.hid (((BoxC.new w 27 ps).up ((Up.refl _).alloc (.cells cs 48))).up ((Up.refl _).alloc (.cells #[.int .i64 0, .int .i64 0, .int .i64 0, .int .i64 0, .int .i64 0] 38)))
  have HBE := Lib.hid ((BoxC.new2 w (.cells ps 27) 48 cs).up ((Up.refl _).alloc (.cells #[.int .i64 0, .int .i64 0, .int .i64 0, .int .i64 0, .int .i64 0] 38)))
  have HBT := Lib.hid (BoxC.new3 w (.cells ps 27) (.cells cs 48) 38 #[.int .i64 0, .int .i64 0, .int .i64 0, .int .i64 0, .int .i64 0])
  have HLX := Lib.hid (fun y (hy : BoxC y (w.heap.size + 1) 48 cs) => run_ex hs hy.range)
  have HLP := Lib.hid (fun y (hy : BoxC y w.heap.size 27 ps) => prog_load hps hy)
  have hg1 : w.heap.size ≤ w.heap.size + 2 := by omega
  have HG2 := Lib.hid hg1
  have HL0 := Lib.hid (HLX.out _ HBE.out)
  clear hg1 hv hp hvv ht hb hs hps hqc
  go_enter Tryz.func46, Tryz.ntmps46
  go_wp2_with (refine st_load HL0.out (by rfl) ?_)
  refine (HVA.out _ HU.out).mono ?_
  rintro e' y ⟨f, rfl, hy, hf⟩
  have HU1 := Lib.hid (HU.out.trans hy)
  have HP1 := Lib.hid (HBP.out.up hy)
  have HE1 := Lib.hid (HBE.out.up hy)
  have HT1 := Lib.hid (HBT.out.up hy)
  have HFF := Lib.hid hf
  have HL1 := Lib.hid (HLX.out _ HE1.out)
  have HPT := Lib.hid (put_typ HT1.out rfl (0, 0, 0, 0, 0))
  have HLR := Lib.hid (run_typV (cs := typC (0, 0, 0, 0, 0)) rfl (HT1.out.row (typC (0, 0, 0, 0, 0))).range)
  clear hf hy HL0 HU HBP HBE HBT
  by_cases hf0 : f = 0
  case neg =>
    have e1 : (f == 0) = false := by simpa using hf0
    have e2 : (f != 0) = true := by simpa using hf0
    have HF0 := Lib.hid hf0
    clear hf0
    go_wp2_with (refine st_store HPT.out (by rfl) (by rfl) ?_)
    refine bodyPost_ret ?_ rfl (ret_zero HU1.out HG2.out HF0.out)
    exact results_c2 (by rfl) (by rfl) (by rfl) HLR.out
  case pos =>
  subst hf0
  have HNN := Lib.hid (HFF.out rfl)
  clear HFF
  go_wp2_with (refine st_load HL1.out (by rfl) ?_)
  refine (HIC.out _ HU1.out).mono ?_
  rintro e' z ⟨rfl, hy⟩
  have HU2 := Lib.hid (HU1.out.trans hy)
  have HP2 := Lib.hid (HP1.out.up hy)
  have HE2 := Lib.hid (HE1.out.up hy)
  have HT2 := Lib.hid (HT1.out.up hy)
  clear hy HL1 HU1 HP1 HE1 HT1 HPT HLR
  cases qc
  case true =>
    have HPT := Lib.hid (put_typ HT2.out rfl (0, 0, 0, 0, 0))
    have HLR := Lib.hid (run_typV (cs := typC (0, 0, 0, 0, 0)) rfl (HT2.out.row (typC (0, 0, 0, 0, 0))).range)
    go_wp2_with (refine st_store HPT.out (by rfl) (by rfl) ?_)
    refine bodyPost_ret ?_ rfl (ret_zero HU2.out HG2.out (f := 10) (by decide))
    exact results_c2 (by rfl) (by rfl) (by rfl) HLR.out
  case false =>
  have HL2 := Lib.hid (HLX.out _ HE2.out)
  have HLq := Lib.hid (HLP.out _ HP2.out)
  go_wp2_with (first | (refine st_load HL2.out (by rfl) ?_) | (refine st_load HLq.out (by rfl) ?_))
  refine (HNO.out HNN.out _ HU2.out).mono ?_
  rintro e' y ⟨t, f, rfl, hy, hf⟩
  have HA := Lib.hid (hy.alloc (.cells (typC t) 38))
  have HU3 := Lib.hid (HU2.out.trans HA.out)
  have HT3 := Lib.hid (HT2.out.up HA.out)
  have HB9 := Lib.hid (BoxC.new y 38 (typC t))
  have HFL := Lib.hid (run_fill (P := Tryz.prog) typ_i y (Z := #[.int .i64 0, .int .i64 0, .int .i64 0, .int .i64 0, .int .i64 0]) (cs := typC t) rfl rfl (typC_one t))
  have HFF := Lib.hid hf
  clear hf hy HL2 HLq
  by_cases hf0 : f = 0
  case neg =>
    have e1 : (f == 0) = false := by simpa using hf0
    have e2 : (f != 0) = true := by simpa using hf0
    have HF0 := Lib.hid hf0
    have HPT := Lib.hid (put_typ HT3.out rfl (0, 0, 0, 0, 0))
    have HLR := Lib.hid (run_typV (cs := typC (0, 0, 0, 0, 0)) rfl (HT3.out.row (typC (0, 0, 0, 0, 0))).range)
    clear hf0
    go_wp2_with (first | (refine st_store HFL.out (by rfl) (by rfl) ?_) | (refine st_store HPT.out (by rfl) (by rfl) ?_))
    refine bodyPost_ret ?_ rfl (ret_zero HU3.out HG2.out HF0.out)
    exact results_c2 (by rfl) (by rfl) (by rfl) HLR.out
  case pos =>
  subst hf0
  have HOK := Lib.hid (HFF.out rfl)
  have HL9 := Lib.hid (run_typ (cs := typC t) rfl HB9.out.range)
  have HPT := Lib.hid (put_typ HT3.out rfl t)
  have HLR := Lib.hid (run_typV (cs := typC t) rfl (HT3.out.row (typC t)).range)
  go_wp2_with (first | (refine st_store HFL.out (by rfl) (by rfl) ?_) | (refine st_store HPT.out (by rfl) (by rfl) ?_) | (refine st_load HL9.out (by rfl) ?_))
  refine bodyPost_ret (v := .tuple #[typV t, .int .i64 0]) ?_ rfl ⟨t, 0, rfl, HU3.out.row HG2.out _, fun _ => HOK.out⟩
  exact results_c2 (by rfl) (by rfl) (by rfl) HLR.out

theorem nameE_zero {s : ByteArray} {l : List ByteArray} (h : nameE s l = 0) : has l s = false := by
  unfold nameE at h
  cases e : has l s with
  | false => rfl
  | true =>
    rw [e] at h
    exfalso
    cases hn : nameB s.toList <;> simp [hn] at h
theorem AtV.par {w : World} {v : Value} {x : Par} (h : AtV 7 parR w v x) : ∃ (cs : Array Value) (ma : Option Addr) (mc : Nat), v = .agg cs ∧ cs.size = 7 ∧ cs.getD 0 undef = .string x.1 ∧ x.1.size ≤ maxLen ∧ typR w (fun j => cs.getD (1 + j) undef) x.2.1 ∧ cs.getD 6 undef = .slice ma x.2.2.length mc ∧ LsAt 2 32 linR w (.slice ma x.2.2.length mc) x.2.2 := by
  obtain ⟨cs, rfl, hs, ⟨n0, n1⟩, ht, hd⟩ := h
  obtain ⟨ma, mc, e1, _⟩ := hd.shape
  exact ⟨cs, ma, mc, rfl, hs, n0, n1, ht, e1, e1 ▸ hd⟩
/-- A type within a box: its load. -/
theorem box_typ {w y : World} {g o : Nat} {T : TypeId} {cs : Array Value} {t : Typ} (hb : BoxC y g T cs) (ho : o + 5 ≤ cs.size) (h : typR w (fun j => cs.getD (o + j) undef) t) : (Instr.loadAt 38 (.pointer (some ⟨g, o, none⟩))).run Tryz.prog y = .ok (typV t) y :=
  run_typ (cs := typC t) rfl (typR_range h (fun j hj => hb.at rfl (by omega)))
set_option maxHeartbeats 16000000 in
theorem r17_param (w : World) (v sv tv : Value) (x : Par) (ss tk : List ByteArray) (hv : AtV 7 parR w v x) (hs : LsAt 1 16 strR w sv ss) (hk : LsAt 1 16 strR w tv tk) :
    Calls Tryz.prog 24 #[v, sv, tv] w fun e w' => ErrQ (has tk x.1 = false) w e w' := by
  obtain ⟨cs, ma, mc, rfl, hsz, h0, h0s, htp, h6, hM⟩ := hv.par
  clear hv
  obtain ⟨nm, t, dims⟩ := x
  dsimp only at *
  obtain ⟨mn, hmn⟩ : ∃ q, dims.length = q := ⟨_, rfl⟩
  have hmI : (mn : Int) ≤ 140737488351232 := by have := hM.bytes; omega
  rw [hmn] at h6 hM
  have HM := Lib.hid hM
  have HMN := Lib.hid hmn
  have HS := Lib.hid (fun y (hy : Up w y) => hs.up strR_up hy)
  have HNM := Lib.hid (fun y (hy : Up w y) => r17_name y nm tv tk (hk.up strR_up hy) _ rfl)
  obtain ⟨fe, hfe⟩ : ∃ q, nameE nm tk = q := ⟨_, rfl⟩
  have HNZ : Hid (fe = 0 → has tk nm = false) := Lib.hid (fun h => nameE_zero (hfe.trans h))
  obtain ⟨qt, hqt⟩ : ∃ q, typB t = q := ⟨_, rfl⟩
  have HTY := Lib.hid (fun y => base_Type t qt hqt y)
  rw [hfe] at HNM
  have HU := Lib.hid ((Up.refl w).alloc (.cells cs 55))
  have HB := Lib.hid (BoxC.new w 55 cs)
  have HX0 := Lib.hid (fun y (hy : BoxC y w.heap.size 55 cs) => hy.at h0 (by rw [hsz]; decide))
  have HX6 := Lib.hid (fun y (hy : BoxC y w.heap.size 55 cs) => hy.at h6 (by rw [hsz]; decide))
  have HXT := Lib.hid (fun y (hy : BoxC y w.heap.size 55 cs) => box_typ hy (o := 1) (by rw [hsz]; decide) htp)
  have c0 := HX0.out _ HB.out
  clear hM hmn hs hk hfe hqt h0 h0s htp h6 hsz
  go_enter Tryz.func24, Tryz.ntmps24
  go_wp2_with fail
  refine (HNM.out _ HU.out).mono ?_
  rintro e y ⟨rfl, hy⟩
  have HU1 := Lib.hid (HU.out.trans hy)
  have HB1 := Lib.hid (HB.out.up hy)
  clear hy HU HB c0
  by_cases hf0 : fe = 0
  case neg =>
    have e1 : (fe == 0) = false := by simpa using hf0
    have e2 : (fe != 0) = true := by simpa using hf0
    have HF0 := Lib.hid hf0
    clear hf0
    go_wp2
    go_ret
    exact ⟨fe, rfl, HU1.out, fun h => absurd h HF0.out⟩
  case pos =>
  have HOK := Lib.hid (HNZ.out hf0)
  clear HNZ
  subst hf0
  have HLT := Lib.hid (HXT.out _ HB1.out)
  go_wp2_with (refine st_load HLT.out (by rfl) ?_)
  refine (HTY.out _).mono ?_
  rintro e z ⟨rfl, hy⟩
  have HU2 := Lib.hid (HU1.out.trans hy)
  have HB2 := Lib.hid (HB1.out.up hy)
  have c6 := HX6.out _ HB2.out
  have bs := HB2.out.lt
  clear hy HU1 HB1 HLT
  cases qt
  case false =>
    go_wp2
    go_ret
    exact ⟨10, rfl, HU2.out, fun h => absurd h (by decide)⟩
  case true =>
  by_cases h6 : (6 : Int) < mn
  case pos =>
    go_wp2
    go_ret
    exact ⟨11, rfl, HU2.out, fun h => absurd h (by decide)⟩
  case neg =>
  go_wp2
  clear c6 bs h6
  go_loopw [8] (fun iv y => ∃ i : Nat, iv = .int .i64 i ∧ i ≤ mn ∧ Up w y ∧ BoxC y w.heap.size 55 cs) (fun iv _ => mn - (intOf iv).toNat)
  case atStart => exact ⟨0, rfl, Nat.zero_le _, HU2.out, HB2.out⟩
  case round =>
    clear HU2 HB2
    rename World => y
    obtain ⟨i, rfl, hi, hup, hb⟩ := hrel
    have HUY := Lib.hid hup
    have HBY := Lib.hid hb
    have c6 := HX6.out y hb
    have bs := hb.lt
    clear hup hb
    by_cases hlt : i < mn
    · have hltI : (i : Int) < mn := by omega
      have hi1 : i < dims.length := by rw [HMN.out]; exact hlt
      obtain ⟨ga, oa, ds, rfl, hga, hca, hra⟩ := HM.out.row linR_k i hi1
      have gas := Nat.lt_of_lt_of_le hga HUY.out.size
      obtain ⟨d1, hu1, hu2⟩ := lin_u
      have HLA := Lib.hid (run_cs (P := Tryz.prog) (k := 2) hu1 hu2 lin_i hca.1 (hra y HUY.out))
      have HFO := Lib.hid (r17_form y (.agg ds) sv dims[i] ss (AtV.up linR_k ⟨ds, rfl, hca⟩ HUY.out) (HS.out y HUY.out) _ rfl)
      obtain ⟨f, hf⟩ : ∃ q, formE dims[i].2 ss = q := ⟨_, rfl⟩
      rw [hf] at HFO
      clear hi1 hra hga hca hu1 hu2 hf
      go_wp2_with (refine st_load HLA.out (by rfl) ?_)
      refine HFO.out.mono ?_
      rintro e z ⟨rfl, hz⟩
      have HUZ := Lib.hid (HUY.out.trans hz)
      have HBZ := Lib.hid (HBY.out.up hz)
      clear hz HLA HFO
      by_cases hf0 : f = 0
      · subst hf0
        go_wp2
        go_roundw
        case rel => exact ⟨i + 1, by go_num, by omega, HUZ.out, HBZ.out⟩
        case measure => simp [intOf]; omega
      · have e1 : (f == 0) = false := by simpa using hf0
        have e2 : (f != 0) = true := by simpa using hf0
        have HF0 := Lib.hid hf0
        clear hf0
        go_wp2
        go_ret
        exact ⟨f, rfl, HUZ.out, fun h => absurd h HF0.out⟩
    · have hltI : ¬ (i : Int) < mn := by omega
      go_wp2
      go_ret
      exact ⟨0, rfl, HUY.out, fun _ => HOK.out⟩

/-- An empty row that the call has made. -/
theorem own_empty {α : Type} {k : Nat} {R0 : (Nat → Value) → α → Prop} {base g : Nat} {e : TypeId} {w : World} (h : w.heap[g]? = some (.cells #[] e (0, 0))) (hb : base ≤ g) : OwnR k R0 base e w (.slice (some ⟨g, 0, none⟩) 0 0) [] :=
  ⟨fun _ _ => undef, by have := own_built (k := k) (n := 0) h hb (by decide) (by simp); simpa [flat] using this, fun i hi => absurd hi (Nat.not_lt_zero _)⟩
set_option maxHeartbeats 16000000 in
theorem r17_axes (w : World) (lv sv : Value) (l : List Ax) (ss : List ByteArray) (hl : LsAt 3 48 axR w lv l) (hs : LsAt 1 16 strR w sv ss) (hln : l.length ≤ 3000) (hsn : ss.length ≤ 3000) :
    Calls Tryz.prog 44 #[lv, sv] w fun e w' => ErrQ True w e w' := by
  obtain ⟨a, c, rfl, -⟩ := hl.shape
  obtain ⟨sa, sc, rfl, -⟩ := hs.shape
  obtain ⟨n, hn⟩ : ∃ q, l.length = q := ⟨_, rfl⟩
  obtain ⟨sn, hsn2⟩ : ∃ q, ss.length = q := ⟨_, rfl⟩
  rw [hn] at hl hln ⊢
  rw [hsn2] at hs hsn ⊢
  have hnI : (n : Int) ≤ 3000 := by omega
  have HL := Lib.hid hl
  have HS := Lib.hid hs
  have HN := Lib.hid hn
  have HSN := Lib.hid hsn2
  have HLB := Lib.hid hln
  have HSB := Lib.hid hsn
  clear hl hs hn hsn2 hln hsn
  have HE0 := Lib.hid (own_empty (α := ByteArray) (k := 1) (R0 := strQ) (base := w.heap.size) (heap_alloc_new w (.cells #[] 9)) (Nat.le_refl _))
  have HS0 : Hid (LsAt 1 16 (fun _ => strQ) (w.alloc (.cells #[] 9)) (.slice sa sn sc) ss) := Lib.hid (HS.out.up strR_up ((Up.refl w).alloc _))
  go_enter Tryz.func44, Tryz.ntmps44
  go_wp2_with (at_builtin; refine st_app (n := 0) (mm := sn) rowT_str strQ_one (by rfl) HSN.out (H := HE0.out) (S := HS0.out) (by have := HSB.out; omega) (by decide) (by simp) (by rfl) (by rfl) ?_; intro ua uc w2 h1 h2 h3; have HR2 := Lib.hid h1; have HU2 := Lib.hid (((Up.refl w).alloc (.cells #[] 9)).grown' h2 fun k e => by have := HE0.out.base k e; omega); clear h1 h2 h3)
  go_loopw [5, 6] (fun tv iv y => ∃ (i : Nat) (T : List ByteArray), iv = .int .i64 i ∧ i ≤ n ∧ T.length = sn + i ∧ Up w y ∧ OwnS w.heap.size y tv T) (fun _ iv _ => n - (intOf iv).toNat)
  case atStart => exact ⟨0, [] ++ ss, rfl, Nat.zero_le _, by rw [List.nil_append, HSN.out, Nat.add_zero], HU2.out, by have h := HR2.out; rw [Nat.zero_add] at h; exact h⟩
  case round =>
    clear HU2 HR2 HE0 HS0
    rename World => y
    obtain ⟨i, T, rfl, hi, hT, hup, how⟩ := hrel
    obtain ⟨va, vc, rfl⟩ := how.shape
    rw [hT] at how ⊢
    have HTL := Lib.hid hT
    have HUY := Lib.hid hup
    have HOW := Lib.hid how
    have HTS : Hid (LsAt 1 16 strR y (.slice va (sn + i) vc) T) := Lib.hid (LsAt.ofS (OwnL.ls (B := 16) how (by decide) (by have := HSB.out; have := HLB.out; omega)))
    clear hup how hT
    by_cases hlt : i < n
    · have hltI : (i : Int) < n := by omega
      have hi1 : i < l.length := by rw [HN.out]; exact hlt
      obtain ⟨g, o, f, rfl, hg, hf, ⟨h4, h5⟩, h6⟩ := HL.out.elem i hi1
      generalize l[i] = ax at *
      obtain ⟨s, K, zl⟩ := ax
      obtain ⟨k0, k1⟩ := h6
      dsimp only at h4 h5 k0 k1
      obtain ⟨za, zc, hz2, -⟩ := k1.shape
      have k1 : LsAt 2 24 monR w (f 2) zl := k1
      have hz2 : f 2 = _ := hz2
      obtain ⟨zn, hzn⟩ : ∃ q, zl.length = q := ⟨_, rfl⟩
      rw [hz2] at k1
      rw [hzn] at hz2 k1
      have c0 := cell_up' HUY.out hg (hf 0 (by decide))
      have c1 := cell_up' HUY.out hg (hf 1 (by decide))
      have c2 := cell_up' HUY.out hg (hf 2 (by decide))
      rw [h4, Nat.add_zero] at c0
      rw [show f 1 = _ from k0] at c1
      rw [hz2] at c2
      have HC1 := Lib.hid (fun z (hz : Up y z) => cell_up' hz (Nat.lt_of_lt_of_le hg HUY.out.size) c1)
      have HC2 := Lib.hid (fun z (hz : Up y z) => cell_up' hz (Nat.lt_of_lt_of_le hg HUY.out.size) c2)
      have HC0 := Lib.hid (fun z (hz : Up y z) => cell_up' hz (Nat.lt_of_lt_of_le hg HUY.out.size) c0)
      have gs := Nat.lt_of_lt_of_le hg HUY.out.size
      have HGS := Lib.hid gs
      have HSZ := Lib.hid h5
      have HKL := Lib.hid k1
      have HNM := Lib.hid (r17_name y s (.slice va (sn + i) vc) T HTS.out _ rfl)
      obtain ⟨fe, hfe⟩ : ∃ q, nameE s T = q := ⟨_, rfl⟩
      rw [hfe] at HNM
      clear hi1 hf h4 h5 k0 k1 hz2 hzn hfe c1 c2 hg
      go_wp2_with fail
      refine HNM.out.mono ?_
      rintro e z ⟨rfl, hz⟩
      have HYZ := Lib.hid hz
      have HUZ := Lib.hid (HUY.out.trans hz)
      clear hz HNM c0 gs
      by_cases hf0 : fe = 0
      case neg =>
        have e1 : (fe == 0) = false := by simpa using hf0
        have e2 : (fe != 0) = true := by simpa using hf0
        clear hf0
        go_wp2
        go_ret
        exact ⟨fe, rfl, HUZ.out, fun _ => trivial⟩
      case pos =>
      subst hf0
      have c1 := HC1.out z HYZ.out
      have c2 := HC2.out z HYZ.out
      have gs := Nat.lt_of_lt_of_le HGS.out HYZ.out.size
      have HFO := Lib.hid (r17_form z (.agg #[.int .i64 K, .slice za zn zc]) (.slice sa sn sc) (K, zl) ss ⟨_, rfl, rfl, rfl, HKL.out.up monR_up HUZ.out⟩ (HS.out.up strR_up HUZ.out) _ rfl)
      dsimp only at HFO
      obtain ⟨fo, hfo⟩ : ∃ q, formE zl ss = q := ⟨_, rfl⟩
      rw [hfo] at HFO
      clear hfo
      go_wp2_with fail
      refine HFO.out.mono ?_
      rintro e z2 ⟨rfl, hz⟩
      have HYZ2 := Lib.hid (HYZ.out.trans hz)
      have HUZ2 := Lib.hid (HUZ.out.trans hz)
      clear hz HFO c1 c2 gs
      by_cases hf0 : fo = 0
      case neg =>
        have e1 : (fo == 0) = false := by simpa using hf0
        have e2 : (fo != 0) = true := by simpa using hf0
        clear hf0
        go_wp2
        go_ret
        exact ⟨fo, rfl, HUZ2.out, fun _ => trivial⟩
      case pos =>
      subst hf0
      have c0 := HC0.out z2 HYZ2.out
      have gs := Nat.lt_of_lt_of_le HGS.out HYZ2.out.size
      go_wp2_with (at_builtin; refine st_app (mm := 1) rowT_str strQ_one HTL.out (by rfl) (H := OwnL.up (fun _ _ _ _ h _ => h) HOW.out (HYZ2.out.alloc _)) (S := LsAt.one_str _ HSZ.out) (by have := HSB.out; have := HLB.out; omega) (by decide) (by have := HUZ2.out.size; simp only [World.size_alloc]; omega) (by rfl) (by rfl) ?_; intro ua uc w3 h1 h2 h3; have HR3 := Lib.hid h1; have HU3 := Lib.hid ((HUZ2.out.alloc _).grown' h2 fun k e => by have := HOW.out.base k e; omega); clear h1 h2 h3)
      go_roundw
      case rel => exact ⟨i + 1, T ++ [s], by go_num, by omega, by rw [List.length_append, HTL.out]; rfl, HU3.out, HR3.out⟩
      case measure => simp [intOf]; omega
    · have hltI : ¬ (i : Int) < n := by omega
      go_wp2
      go_ret
      exact ⟨0, rfl, HUY.out, fun _ => trivial⟩
end Go.Proofs.YtpccaifhcmcegaaGreat
end

section
namespace Go.Proofs.YtpccaifhcmcegaaGreat
open Go.ChangeShapes Go.WideShapes Go.ChangeAt Go.RowKit
set_option linter.unusedVariables false
set_option linter.unusedSimpArgs false

section
variable {P : Program} {ops : Array Oper} {md : Region.Mode} {w : World} {M : FuncId → Array Value → Value → World → Prop}

def wpAnyG (P : Program) (md : Region.Mode) (ops : Array Oper) (M : FuncId → Array Value → Value → World → Prop) (w : World) (n e : Nat) (L : Array Bool → Act → Facts → Prop) : Nat → Array Bool → Act → Facts → Prop
  | 0, listed, a, S => L listed a S
  | f + 1, listed, a, S =>
    Region.ready md ops listed ≠ [] ∧ ∀ i ∈ Region.ready md ops listed, (i < n ∧ dOp P md ops M w i (wpAnyG P md ops M w n e L f (listed.setIfInBounds i true)) a S) ∨ (i = n ∧ f = 0 ∧ e ∈ Region.ready md ops listed)

theorem wpAnyG_first {n e i : Nat} {oi : Oper} {L : Array Bool → Act → Facts → Prop} (hi : ops[i]? = some oi) (hin : i < n) (hsel : ∀ (j : Nat) (o : Oper) cs b, ops[j]? = some o → o.op ≠ .select cs b)
    (hT : ∀ listed, HeadInv md ops n listed → ∀ j ∈ Region.ready md ops listed, j < n + 1) (hE : ∀ listed, HeadInv md ops n listed → n ∈ Region.ready md ops listed → ∀ k, k < n → k ≠ e → listed.getD k true = true)
    (hdone : ∀ listed a S, L listed a S → ∀ j ∈ Region.ready md ops listed, n ≤ j) :
    ∀ (f : Nat) (listed : Array Bool) (a : Act) (S : Facts), Real w S → HeadInv md ops n listed →
      (∀ j oj, ops[j]? = some oj → j ≠ i → listed.getD j true = false → (∀ e ∈ oj.after, Region.binds md e = true → e.on ≠ i) → oi.apart ops oj = true) →
      i ∈ Region.ready md ops listed → dGood P md ops M w oi a S →
      (∀ v T, dRes P md ops M w oi a S v T → wpAnyG P md ops M w n e L f (listed.setIfInBounds i true) (a.put oi.dst v) (upd S i T)) → wpAnyG P md ops M w n e L (f + 1) listed a S := by
  intro f
  induction f with
  | zero =>
    intro listed a S hrl inv _ hr hy H
    have hun := (mem_ready.1 hr).1
    refine ⟨fun h => (by rw [h] at hr; cases hr), fun j hj => ?_⟩
    have hjn : j < n + 1 := hT listed inv j hj
    by_cases hjn' : j = n
    · subst hjn'
      refine .inr ⟨rfl, rfl, ?_⟩
      by_cases hie : i = e
      · subst hie; exact hr
      · have := hE listed inv hj i hin hie
        rw [hun] at this; cases this
    refine .inl ⟨by omega, ?_⟩
    by_cases hji : j = i
    · subst hji; unfold dOp; simp only [hi]; exact ⟨hy, H⟩
    · obtain ⟨v0, T0, hr0⟩ := hy.some hrl
      have := hdone _ _ _ (H v0 T0 hr0) j (ready_mono hj hji)
      omega
  | succ f ih =>
    intro listed a S hrl inv hfree hr hy H
    obtain ⟨hun, oi', hoi', halli⟩ := mem_ready.1 hr
    obtain rfl : oi' = oi := Option.some.inj (hoi'.symm.trans hi)
    refine ⟨fun h => (by rw [h] at hr; cases hr), fun j hj => ?_⟩
    have hjn : j < n + 1 := hT listed inv j hj
    by_cases hjn' : j = n
    · exfalso
      subst hjn'
      obtain ⟨v0, T0, hr0⟩ := hy.some hrl
      have hji : j ≠ i := by omega
      rcases (H v0 T0 hr0).2 j (ready_mono hj hji) with ⟨h1, _⟩ | ⟨_, h2, h3⟩
      · omega
      · have hie : i ≠ e := fun h => by
          subst h
          have h5 := (mem_ready.1 h3).1
          have hs : i < listed.size := by rw [inv.size]; exact (Array.getElem?_eq_some_iff.1 hi).1
          rw [Array.getD_eq_getD_getElem?, Array.getElem?_setIfInBounds_self_of_lt hs] at h5
          cases h5
        have := hE listed inv hj i hin hie
        rw [hun] at this; cases this
    have hjn : j < n := by omega
    refine .inl ⟨hjn, ?_⟩
    by_cases hji : j = i
    · subst hji; unfold dOp; simp only [hi]; exact ⟨hy, H⟩
    · obtain ⟨hjun, oj, hoj, hall⟩ := mem_ready.1 hj
      have hnot : ∀ e ∈ oj.after, Region.binds md e = true → e.on ≠ i := fun e he hb heq => by
        have h1 := hall e he hb
        rw [heq, getD_both hun] at h1
        cases h1
      have hnoti : ∀ e ∈ oi'.after, Region.binds md e = true → e.on ≠ j := fun e he hb heq => by
        have h1 := halli e he hb
        rw [heq, getD_both hjun] at h1
        cases h1
      have h2 := dOp_put (K := wpAnyG P md ops M w n e L f ((listed.setIfInBounds i true).setIfInBounds j true)) (Ne.symm hji) hoj (hfree j oj hoj hji hjun hnot) hnoti hnot (fun cs b => hsel i oi' cs b hi) (fun cs b => hsel j oj cs b hoj) hrl hy
        (fun v T hv => by
          rcases (H v T hv).2 j (ready_mono hj hji) with h3 | ⟨h3, _⟩
          · exact h3.2
          · omega)
      have hfree' : ∀ k ok, ops[k]? = some ok → k ≠ i → (listed.setIfInBounds j true).getD k true = false →
          (∀ e ∈ ok.after, Region.binds md e = true → e.on ≠ i) → oi'.apart ops ok = true := fun k ok hk hki hun hno => by
        refine hfree k ok hk hki ?_ hno
        by_cases hjk : j = k
        · subst hjk; exact hjun
        · rw [getD_set_ne true hjk] at hun; exact hun
      refine dOp_mono hrl (fun a' S' hrl' h3 => ih (listed.setIfInBounds j true) a' S' hrl' (inv.set hj hjn) hfree' (ready_mono hr (Ne.symm hji)) h3.1 ?_) h2
      rw [Array.setIfInBounds_comm _ _ hji]
      exact h3.2

theorem wpAnyG_lex {n e : Nat} {Lq : Act → Facts → Prop} {B : Array Bool → Prop} {lex : Nat → Nat → Array Bool → Bool}
    (h0B : ∀ k listed, lex 0 k listed = true → k = n → B listed) (h1B : ∀ f k listed, lex (f + 1) k listed = true → (Region.ready md ops listed).contains k = true ∧ Region.free md ops listed k = true ∧ lex f (k + 1) (listed.setIfInBounds k true) = true)
    (hsel : Region.noSelect ops = true) (hT : ∀ listed, HeadInv md ops n listed → ∀ j ∈ Region.ready md ops listed, j < n + 1) (hE : ∀ listed, HeadInv md ops n listed → n ∈ Region.ready md ops listed → ∀ k, k < n → k ≠ e → listed.getD k true = true)
    (hdone : ∀ listed, B listed → ∀ j ∈ Region.ready md ops listed, n ≤ j) :
    ∀ (l : List Oper) (k : Nat) (listed : Array Bool) (a : Act) (S : Facts), Real w S → (∀ j, j < l.length → l[j]? = ops[k + j]?) → k + l.length = n → HeadInv md ops n listed →
    lex l.length k listed = true → wpMd P md ops M w Lq k l a S →
    wpAnyG P md ops M w n e (fun listed' a' S' => B listed' ∧ Lq a' S') l.length listed a S
  | [], k, listed, a, S, _, _, hk, _, hB, h => by
    have : k = n := by simpa using hk
    exact ⟨h0B k listed (by simpa using hB) this, h⟩
  | o :: l, k, listed, a, S, hrl, hl, hk, inv, hB, h => by
    have h0 : ops[k]? = some o := by simpa using (hl 0 (by simp)).symm
    obtain ⟨hr, hf, hB'⟩ := h1B _ _ _ hB
    have hkn : k < n := by simp only [List.length_cons] at hk; omega
    have hr' : k ∈ Region.ready md ops listed := by simpa using hr
    exact wpAnyG_first h0 hkn (Region.noSelect_spec hsel) hT hE (fun listed' a' S' hL => hdone _ hL.1) l.length listed a S hrl inv (Region.free_spec h0 hf) hr' h.1
      (fun v T hv => wpAnyG_lex h0B h1B hsel hT hE hdone l (k + 1) _ _ _ (hrl.upd hv) (fun j hj => by have := hl (j + 1) (by simp; omega); simpa [Nat.add_assoc, Nat.add_comm 1 j] using this) (by simp only [List.length_cons] at hk; omega) (inv.set hr' hkn) hB' (h.2 v T hv))

theorem wpAny_of_headG {n e : Nat} {oe on : Oper} {tl : List Oper} {Lq : Act → World → Prop} {Q' : Exit → Act → World → Prop} (hsz : n < ops.size) (hen : e < n) (hoe : ops[e]? = some oe) (hon : ops[n]? = some on) (hpu : PureO P oe)
    (hsele : ∀ cs b, oe.op ≠ .select cs b) (hseln : ∀ cs b, on.op ≠ .select cs b) (hap : oe.apart ops on = true) (hE : ∀ listed, HeadInv md ops n listed → n ∈ Region.ready md ops listed → ∀ k, k < n → k ≠ e → listed.getD k true = true)
    (htl : ∀ j, tl[j]? = ops[n + 1 + j]?) (hTl : ∀ listed, HeadInv md ops n listed → listed.getD e true = false → ∀ j ∈ Region.ready md ops (listed.setIfInBounds n true), j < n)
    (hQ : ∀ a x, Lq a x → OutL P ops (wpList P ops Q' tl) on a x) :
    ∀ (f : Nat) (listed : Array Bool) (a : Act) (S : Facts) (x : World), HeadInv md ops n listed → Up w x → (∀ k, S k x) → KeptF S →
      wpAnyG P md ops M w n e (fun listed a' S' => Region.seqB md ops (tl.length + 1) n listed = true ∧ ∀ x, Up w x → (∀ k, S' k x) → Lq a' x) f listed a S → wpAny P md ops Q' (f + (tl.length + 1)) listed a x
  | 0, listed, a, S, x, inv, hx, hS, hk, h => by
    obtain ⟨hB, hL⟩ := h
    simp only [Region.seqB, Bool.and_eq_true, decide_eq_true_eq] at hB
    rw [Nat.zero_add]
    refine ⟨fun h1 => (by rw [hB.1] at h1; cases h1), fun i hi => ?_⟩
    rw [hB.1] at hi
    obtain rfl : i = n := by simpa using hi
    exact OutL.wp hon ((hQ a x (hL x hx hS)).mono fun a' x' h' => wpAny_of_seq tl (i + 1) _ a' x' htl hB.2 h')
  | f + 1, listed, a, S, x, inv, hx, hS, hk, h => by
    rw [show f + 1 + (tl.length + 1) = (f + (tl.length + 1)) + 1 by omega]
    refine ⟨fun h0 => absurd h0 h.1, fun i hi => ?_⟩
    rcases h.2 i hi with ⟨hin, hm⟩ | ⟨rfl, rfl, he⟩
    · exact wpOp_of_dOp hx hS hk (fun a' S' x' h1 h2 h3 h' => wpAny_of_headG hsz hen hoe hon hpu hsele hseln hap hE htl hTl hQ f _ a' S' x' (inv.set hi hin) h1 h2 h3 h') hm
    · have hall := hE listed inv hi
      have hlsz := inv.size
      obtain ⟨_, hm⟩ := (h.2 e he).resolve_right (fun h1 => by have := h1.1; omega)
      obtain ⟨p1, p2, p3⟩ := Oper.apart_spec hap
      have hun := (mem_ready.1 he).1
      have hready : ∀ j ∈ Region.ready md ops (listed.setIfInBounds i true), j = e := fun j hj => by
        have hjl := hTl listed inv hun j hj
        obtain ⟨g1, oj, hoj, _⟩ := mem_ready.1 hj
        rw [getD_set_ne true (by omega : i ≠ j)] at g1
        by_cases hje : j = e
        · exact hje
        · rw [hall j hjl hje] at g1; cases g1
      have her : e ∈ Region.ready md ops (listed.setIfInBounds i true) := ready_mono he (by omega)
      rw [Nat.zero_add]
      unfold dOp at hm
      simp only [hoe] at hm
      obtain ⟨hg, hn⟩ := hm
      by_cases hw : Region.wanted oe (yielded ops a.tmps) = true
      · have hd : Deps md oe S x := fun e _ _ => hS e.on
        have hgx := hg hw x hx hd
        obtain ⟨v, hv⟩ : ∃ v, ∀ y, (execOp a.eval oe).run P y = .ok (.value v) y := by
          revert hgx
          cases hr : (execOp a.eval oe).run P x with
          | halt _ _ => intro hgx; exact absurd hgx (by simp [GoodR])
          | ok r x1 =>
            intro _
            obtain ⟨_, ⟨v, rfl⟩, _⟩ := hpu a.eval x x x1 r hr
            exact ⟨v, fun y => (hpu a.eval x y x1 _ hr).2.2⟩
        have hsp : SPD P md M w oe a S v x := ⟨x, x, hx, hd, by rw [hv]; exact ⟨rfl, rfl⟩, Up.refl x, hd⟩
        have hr : dRes P md ops M w oe a S v (SPD P md M w oe a S v) := by
          refine ⟨?_, x, hx, hS, hsp⟩
          unfold dT; rw [if_pos hw]
        obtain ⟨hB, hL⟩ := hn v _ hr
        simp only [Region.seqB, Bool.and_eq_true, decide_eq_true_eq] at hB
        obtain ⟨hwn, ho⟩ := hQ _ x (hL x hx fun k => upd_mk (hS k) hsp)
        rw [wanted_put on a oe.dst v p1] at hwn
        rw [execOp_put on hseln a oe.dst v p1] at ho
        have hfin : ∀ u x', wpList P ops Q' tl ((a.put oe.dst v).put on.dst u) x' → wpAny P md ops Q' (tl.length + 1) (listed.setIfInBounds i true) (a.put on.dst u) x' := fun u x' hq => by
          refine ⟨fun h0 => (by rw [h0] at her; cases her), fun j hj => ?_⟩
          obtain rfl := hready j hj
          unfold wpOp
          simp only [hoe]
          rw [wanted_put oe a on.dst u p3, if_pos hw]
          refine .inl ?_
          unfold Oper.wp
          rw [execOp_put oe hsele a on.dst u p3, hv]
          refine wpAny_of_seq tl (i + 1) _ _ x' htl ?_ ?_
          · rw [Array.setIfInBounds_comm _ _ (by omega)]; exact hB.2
          · rw [Act.put_comm a v u p2] at hq; exact hq
        exact OutL.wp hon ⟨hwn, ho.imp (fun ⟨u, x', h1, h2⟩ => ⟨u, x', h1, hfin u x' h2⟩) (fun ⟨x', h1, h2⟩ => ⟨x', h1, hfin undef x' h2⟩)⟩
      · have hd : Deps md oe S x := fun e _ _ => hS e.on
        have hr : dRes P md ops M w oe a S undef (Deps md oe S) := by
          refine ⟨?_, x, hx, hS, hd⟩
          unfold dT; rw [if_neg hw]; exact ⟨rfl, rfl⟩
        obtain ⟨hB, hL⟩ := hn undef _ hr
        simp only [Region.seqB, Bool.and_eq_true, decide_eq_true_eq] at hB
        obtain ⟨hwn, ho⟩ := hQ _ x (hL x hx fun k => upd_mk (hS k) hd)
        rw [wanted_put on a oe.dst undef p1] at hwn
        rw [execOp_put on hseln a oe.dst undef p1] at ho
        have hfin : ∀ u x', wpList P ops Q' tl ((a.put oe.dst undef).put on.dst u) x' → wpAny P md ops Q' (tl.length + 1) (listed.setIfInBounds i true) (a.put on.dst u) x' := fun u x' hq => by
          refine ⟨fun h0 => (by rw [h0] at her; cases her), fun j hj => ?_⟩
          obtain rfl := hready j hj
          unfold wpOp
          simp only [hoe]
          rw [wanted_put oe a on.dst u p3, if_neg hw]
          refine wpAny_of_seq tl (i + 1) _ _ x' htl ?_ ?_
          · rw [Array.setIfInBounds_comm _ _ (by omega)]; exact hB.2
          · rw [Act.put_comm a undef u p2] at hq; exact hq
        exact OutL.wp hon ⟨hwn, ho.imp (fun ⟨u, x', h1, h2⟩ => ⟨u, x', h1, hfin u x' h2⟩) (fun ⟨x', h1, h2⟩ => ⟨x', h1, hfin undef x' h2⟩)⟩

/-- The head once, in the text's order; then the last operation, given by its run; then what waits for it. -/
theorem wp_region_lateD {id : Nat} {Q : Exit → Act → World → Prop} {a : Act} {l : List Oper} (n e : Nat) (on : Oper) (M : FuncId → Array Value → Value → World → Prop) (hm : P.follows .mixedOrders = true) (hB : lexLateB .any l.toArray n e = true) (hon : l.toArray[n]? = some on)
    (h : wpMd P .any l.toArray M w (fun a' S => ∀ x, Up w x → (∀ k, S k x) → OutL P l.toArray (wpList P l.toArray Q (l.drop (n + 1))) on a' x) 0 (l.take n) a (fun _ _ => True)) : (Code.region id l.toArray true).wp P Q a w := by
  simp only [lexLateB, Bool.and_eq_true, decide_eq_true_eq] at hB
  obtain ⟨⟨⟨⟨⟨⟨hsel, hsz⟩, hen⟩, hs⟩, hch⟩, hlex⟩, hx⟩ := hB
  obtain ⟨oe, hoe⟩ : ∃ oe, l.toArray[e]? = some oe := ⟨_, Array.getElem?_eq_getElem (by omega)⟩
  rw [hoe, hon] at hx
  simp only [Bool.and_eq_true] at hx
  obtain ⟨hap, hex⟩ := hx
  obtain ⟨t, k, hop⟩ : ∃ t k, oe.op = .extract t k := by
    revert hex
    cases oe.op <;> simp
  have hn' : n < l.length := by simpa using hsz
  have htl : (l.take n).length = n := by simp; omega
  have hdl : (l.drop (n + 1)).length + 1 = l.toArray.size - n := by simp; omega
  have inv0 : HeadInv .any l.toArray n (Array.replicate l.toArray.size false) :=
    ⟨by simp, fun j oj _ hl => (by rw [getD_replicate_false] at hl; cases hl), fun t _ ht => getD_in (by simpa using ht) (getD_replicate_false _ _)⟩
  have hE : ∀ listed, HeadInv .any l.toArray n listed → n ∈ Region.ready .any l.toArray listed → ∀ k, k < n → k ≠ e → listed.getD k true = true := fun listed inv hr k hk hke => tail_waitsE hs hsz hen inv hr _ k rfl hk hke
  have H := wpAnyG_lex (md := .any) (n := n) (e := e) (B := fun listed => Region.seqB .any l.toArray (l.toArray.size - n) n listed = true) (lex := Region.lexHead .any l.toArray (l.toArray.size - n))
    (fun k listed h1 h2 => by subst h2; simpa [Region.lexHead] using h1) (fun f k listed h1 => by
      simp only [Region.lexHead, Bool.and_eq_true] at h1; exact ⟨h1.1.1, h1.1.2, h1.2⟩) hsel (chainEB_T hch) hE
    (fun listed h1 => seqB_ready h1) (l.take n) 0 _ a _ real0 (fun j hj => by
    have hj' : j < n := by rw [htl] at hj; exact hj
    simp [hj']) (by simpa using htl) inv0 (by rw [htl]; exact hlex) h
  rw [← hdl] at H
  refine wp_region_any hm ?_
  have := wpAny_of_headG (Q' := Q) (tl := l.drop (n + 1)) hsz hen hoe hon (pureO_extract hop) (Region.noSelect_spec hsel e oe · · hoe) (Region.noSelect_spec hsel n on · · hon) hap hE (fun j => by simp [List.getElem?_drop]) (chainEB_Tl hch hsz hen) (Lq := fun a' x => OutL P l.toArray (wpList P l.toArray Q (l.drop (n + 1))) on a' x) (fun a' x hq => hq) _ _ _ _ { w with drawn := w.drawn + 1 } inv0 (Up.refl w).drew (fun _ => trivial) (real0 (w := w)).1 H
  rw [htl, hdl, show n + (l.toArray.size - n) = l.toArray.size by omega] at this
  exact this
end
end Go.Proofs.YtpccaifhcmcegaaGreat
end

section
namespace Go.Proofs.YtpccaifhcmcegaaGreat
set_option linter.unusedSimpArgs false
open Go.ChangeShapes Go.WideShapes Go.ChangeAt Go.RowKit
set_option linter.unusedVariables false
set_option maxRecDepth 100000

theorem rdyB_iff {l : List Df} {d : Df} : rdyB l d = true ↔ ∀ x ∈ l, has (readsF d.body) x.nm = false := by
  unfold rdyB
  rw [Bool.not_eq_true', List.any_eq_false]
  exact ⟨fun h x hx => by have := h x hx; cases e : has (readsF d.body) x.nm; · rfl
                          · exact absurd e this, fun h x hx e => by rw [h x hx] at e; cases e⟩
/-- No definition reads itself or a later one. -/
def srt : List Df → Prop
  | [] => True
  | d :: r => rdyB (d :: r) d = true ∧ srt r
theorem srt_get : ∀ {l : List Df}, srt l → ∀ (i k : Nat) (hk : k < l.length) (hik : i ≤ k), has (readsF (l[i]'(by omega)).body) l[k].nm = false
  | [], _, i, k, hk, _ => absurd hk (by simp)
  | d :: r, h, 0, k, hk, _ => rdyB_iff.1 h.1 _ (List.getElem_mem hk)
  | d :: r, h, i + 1, 0, hk, hik => absurd hik (by omega)
  | d :: r, h, i + 1, k + 1, hk, hik => by
    have := srt_get h.2 i k (by simpa using hk) (by omega)
    simpa using this
theorem srt_of : ∀ {l : List Df}, (∀ (i k : Nat) (hk : k < l.length) (hik : i ≤ k), has (readsF (l[i]'(by omega)).body) l[k].nm = false) → srt l
  | [], _ => trivial
  | d :: r, h => ⟨rdyB_iff.2 fun x hx => by
      obtain ⟨k, hk, rfl⟩ := List.mem_iff_getElem.1 hx
      exact h 0 k hk (Nat.zero_le _), srt_of fun i k hk hik => by
      have := h (i + 1) (k + 1) (by simpa using hk) (by omega)
      simpa using this⟩
theorem topoL_sorts : ∀ (f : Nat) (rest out l : List Df), topoL f rest out = some l → ∃ l', l = out ++ l' ∧ l'.length = rest.length ∧ srt l' ∧ ∀ x ∈ l', x ∈ rest
  | 0, rest, out, l, h => by
    rw [topoL] at h
    split at h
    · rename_i h0
      cases h
      exact ⟨[], by simp, h0.symm, trivial, by simp⟩
    · cases h
  | f + 1, rest, out, l, h => by
    rw [topoL] at h
    split at h
    · rename_i h0
      cases h
      exact ⟨[], by simp, h0.symm, trivial, by simp⟩
    · split at h
      · rename_i h0 hk
        obtain ⟨l', rfl, hl, hs, hm⟩ := topoL_sorts f _ _ _ h
        have hr : rdyB rest rest[rest.findIdx (rdyB rest)] = true := List.findIdx_getElem (w := hk)
        have hm2 : ∀ x ∈ l', x ∈ rest := fun x hx => by
          rcases List.mem_append.1 (hm x hx) with h | h
          · exact List.mem_of_mem_take h
          · exact List.mem_of_mem_drop h
        refine ⟨rest[rest.findIdx (rdyB rest)] :: l', by simp, ?_, ⟨rdyB_iff.2 fun x hx => ?_, hs⟩, fun x hx => ?_⟩
        · rw [List.length_cons, hl, List.length_append, List.length_take, List.length_drop]
          omega
        · refine rdyB_iff.1 hr x ?_
          rcases List.mem_cons.1 hx with rfl | hx
          · exact List.getElem_mem hk
          · exact hm2 x hx
        · rcases List.mem_cons.1 hx with rfl | hx
          · exact List.getElem_mem hk
          · exact hm2 x hx
      · cases h
theorem topoL_srt : ∀ (l out : List Df), srt l → topoL l.length l out = some (out ++ l)
  | [], out, _ => by simp [topoL]
  | d :: r, out, h => by
    have e := topoL_step (f := r.length) (k := 0) (n := (d :: r).length) (rest := d :: r) (out := out) rfl (Nat.le_refl _) (by simp) h.1 (fun j hj => absurd hj (Nat.not_lt_zero _))
    rw [List.length_cons, e]
    have := topoL_srt r (out ++ [d]) h.2
    simpa using this
theorem topoF_srt {p : Pg} (h : srt p.defs) : topoF p = (p, 0) := by
  have := topoL_srt p.defs [] h
  rw [List.nil_append] at this
  rw [topoF_some this]
theorem topoF_ok {p : Pg} (h : (topoF p).2 = 0) : ∃ l, topoF p = ({ p with defs := l }, 0) ∧ l.length = p.defs.length ∧ srt l ∧ ∀ x ∈ l, x ∈ p.defs := by
  cases e : topoL p.defs.length p.defs [] with
  | none => rw [topoF_none e] at h; cases h
  | some l =>
    obtain ⟨l', e1, e2, e3, e4⟩ := topoL_sorts _ _ _ _ e
    rw [List.nil_append] at e1
    subst e1
    exact ⟨l, topoF_some e, e2, e3, e4⟩
theorem topoF_err {p : Pg} (h : (topoF p).2 ≠ 0) : (topoF p).2 = 9 ∧ 0 < p.defs.length := by
  cases e : topoL p.defs.length p.defs [] with
  | some l => rw [topoF_some e] at h; exact absurd rfl h
  | none =>
    refine ⟨by rw [topoF_none e], Nat.pos_of_ne_zero fun h0 => ?_⟩
    have : p.defs = [] := List.length_eq_zero_iff.1 h0
    rw [this, topoL_nil] at e
    cases e
/-- What the check of definition number k grants. -/
def defOk (p : Pg) (k : Nat) (d : Df) : Prop := has (p.sizes ++ p.pars.map (·.1) ++ (p.defs.take k).map (·.nm)) d.nm = false ∧ ∀ s ∈ readsF d.body, has (p.pars.map (·.1)) s = true ∨ has ((p.defs.take k).map (·.nm)) s = true
theorem has_mem {l : List ByteArray} {s : ByteArray} : has l s = true ↔ s ∈ l := by
  unfold has
  rw [List.any_eq_true]
  exact ⟨fun ⟨x, h1, h2⟩ => of_decide_eq_true h2 ▸ h1, fun h => ⟨s, h, decide_eq_true rfl⟩⟩
theorem valid_srt {p : Pg} (h : ∀ k (hk : k < p.defs.length), defOk p k p.defs[k]) : srt p.defs := srt_of fun i k hk hik => by
  cases e : has (readsF (p.defs[i]'(by omega)).body) p.defs[k].nm with
  | false => rfl
  | true =>
    exfalso
    have h1 := (h i (by omega)).2 _ (has_mem.1 e)
    have h2 := (h k hk).1
    have h3 : p.defs[k].nm ∈ p.sizes ++ p.pars.map (·.1) ++ (p.defs.take k).map (·.nm) := by
      rcases h1 with h1 | h1
      · exact List.mem_append_left _ (List.mem_append_right _ (has_mem.1 h1))
      · refine List.mem_append_right _ ?_
        obtain ⟨d, hd, e2⟩ := List.mem_map.1 (has_mem.1 h1)
        refine List.mem_map.2 ⟨d, ?_, e2⟩
        have : p.defs.take i = (p.defs.take k).take i := by rw [List.take_take, Nat.min_eq_left hik]
        rw [this] at hd
        exact List.mem_of_mem_take hd
    rw [has_mem.2 h3] at h2
    cases h2
end Go.Proofs.YtpccaifhcmcegaaGreat
end
