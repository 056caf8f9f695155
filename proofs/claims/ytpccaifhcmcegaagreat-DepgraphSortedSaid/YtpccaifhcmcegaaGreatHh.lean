/-
  Joined by a program: Dg8, Dg9, DgI, DgO, DgP.
-/
import Derived.Test.YtpccaifhcmcegaaGreatHf
import Derived.Test.YtpccaifhcmcegaaGreatDgQ

section
namespace Go.Proofs.YtpccaifhcmcegaaGreat
set_option linter.unusedSimpArgs false
open Go.ChangeShapes Go.WideShapes Go.ChangeAt Go.RowKit
set_option linter.unusedVariables false
set_option maxRecDepth 100000

/-- A definition as a value. -/
def DefAt (N : Nat) (w : World) (v : Value) (d : Df) : Prop := ∃ cs : Array Value, v = .agg cs ∧ CsAt 22 (defR N) w cs d
theorem DefAt.up {N : Nat} {w w' : World} {v : Value} {d : Df} (h : DefAt N w v d) (u : Up w w') : DefAt N w' v d := let ⟨f, h1, h2⟩ := h; ⟨f, h1, h2.up (defR_k N) u⟩

set_option maxHeartbeats 4000000 in
theorem r20_Reads (N : Nat) (d : Df) (v : Value) (w : World) (hv : DefAt N w v d) (ht : tot d.body ≤ 1500) :
    Calls Tryz.prog 9 #[v] w fun e' w' => ∃ u, e' = .returned u ∧ Up w w' ∧ LsN w.heap.size w' u (readsF d.body) := by
  obtain ⟨cs, rfl, hd⟩ := hv
  have HB := Lib.hid (fun y (hy : Up w y) => r14_Reads N d.body _ y (hd.body.ex.up hy) ht)
  have HU0 : Hid (Up w (w.alloc (.cells cs 50))) := Lib.hid ((Up.refl w).alloc _)
  have hld := Lib.hid <| run_ex hd.body.1 ((BoxC.new w 50 cs).sub 9 13)
  generalize cs.extract 9 (9 + 13) = es at *
  clear hd ht
  go_enter Tryz.func9, Tryz.ntmps9
  go_wp2_with (first | (refine st_load hld.out (by rfl) ?_) | (go_at_call 30; refine (HB.out _ HU0.out).mono ?_; rintro e' y ⟨u, rfl, hy, hu⟩; have HY := Lib.hid (HU0.out.trans hy); have HL : Hid (LsN w.heap.size y u (readsF d.body)) := Lib.hid ⟨hu.1, hu.2.mono HU0.out.size⟩; clear hy hu))
  go_ret
  exact ⟨_, rfl, HY.out, HL.out⟩
end Go.Proofs.YtpccaifhcmcegaaGreat
end

section
namespace Go.Proofs.YtpccaifhcmcegaaGreat
set_option linter.unusedSimpArgs false
open Go.ChangeShapes Go.WideShapes Go.ChangeAt Go.RowKit
set_option linter.unusedVariables false
set_option maxRecDepth 100000

theorem sum_mem {α : Type} (f : α → Nat) : ∀ (l : List α) (x : α), x ∈ l → f x ≤ (l.map f).sum
  | [], x, h => by cases h
  | y :: r, x, h => by
    rw [List.map_cons, List.sum_cons]
    rcases List.mem_cons.1 h with rfl | h
    · omega
    · have := sum_mem f r x h; omega
theorem SmallP.body {p : Pg} (h : SmallP p) {d : Df} (hd : d ∈ p.defs) : tot d.body ≤ 1500 := by
  have h1 := sum_mem defW p.defs d hd
  have h2 := h.sum
  have h3 : defW d = d.dims.length + d.red.length + tot d.body := rfl
  omega
/-- The names that the definition of a name reads. -/
def inF : List Df → ByteArray → List ByteArray
  | [], _ => []
  | d :: r, s => if d.nm = s then readsF d.body else inF r s
theorem inF_drop {l : List Df} {s : ByteArray} {i n : Nat} (hn : l.length = n) (hi : i < n) : inF (l.drop i) s = if (l[i]'(by omega)).nm = s then readsF (l[i]'(by omega)).body else inF (l.drop (i + 1)) s := by
  rw [drop_eq hn hi, inF]
/-- A definition of a list: its cells, and its name's cell. -/
theorem LsAt.def {N : Nat} {w : World} {a : Option Addr} {n c : Nat} {l : List Df} (h : LsAt 22 272 (defR N) w (.slice a n c) l) (i : Nat) (hi : i < l.length) :
    ∃ (g o : Nat) (cs : Array Value), a = some ⟨g, o, none⟩ ∧ g < w.heap.size ∧ CsAt 22 (defR N) w cs l[i] ∧ (∀ y, Up w y → (Instr.loadAt 50 (.pointer (some ⟨g, o + i * 22, none⟩))).run Tryz.prog y = .ok (.agg cs) y) ∧ cs.getD 0 undef = .string l[i].nm ∧ l[i].nm.size ≤ maxLen ∧ ∀ y, Up w y → y.cell? ⟨g, o + i * 22, none⟩ = some (.string l[i].nm) := by
  obtain ⟨g, o, cs, e, hg, hc, hr⟩ := h.row (defR_k N) i hi
  have h0 : cs.getD 0 undef = .string l[i].nm := hc.2.1.1
  refine ⟨g, o, cs, e, hg, hc, fun y hy => run_def hc.1 (hr y hy), h0, hc.2.1.2, fun y hy => ?_⟩
  have := hr y hy 0 (.string l[i].nm) (by
    rw [← h0, Array.getElem?_toList, Array.getD_eq_getD_getElem?, Array.getElem?_eq_getElem (by rw [hc.1]; decide)]; rfl)
  exact this

theorem LsAt.defn {N : Nat} {w : World} {a : Option Addr} {n c : Nat} {l : List Df} (h : LsAt 22 272 (defR N) w (.slice a n c) l) (i : Nat) (hi : i < l.length) :
    ∃ (g o : Nat) (cs : Array Value), a = some ⟨g, o, none⟩ ∧ g < w.heap.size ∧ CsAt 22 (defR N) w cs l[i] ∧ (∀ y, Up w y → (Instr.loadAt 50 (.pointer (some ⟨g, o + i * 22, none⟩))).run Tryz.prog y = .ok (.agg cs) y) ∧ cs.getD 0 undef = .string l[i].nm ∧ l[i].nm.size ≤ maxLen ∧ ∀ y, Up w y → y.cell? ⟨g, o + i * 22, none⟩ = some (.string l[i].nm) := h.def i hi

end Go.Proofs.YtpccaifhcmcegaaGreat
end

section
namespace Go.Proofs.YtpccaifhcmcegaaGreat
set_option linter.unusedSimpArgs false
open Go.ChangeShapes Go.WideShapes Go.ChangeAt Go.RowKit
set_option linter.unusedVariables false
set_option maxRecDepth 100000

theorem ex_Reads (N : Nat) (e : Ex) (v : Value) (w : World) (hv : ExAt N w v e) (ht : tot e ≤ 1500) :
    Calls Tryz.prog 32 #[v] w fun e' w' => ∃ u, e' = .returned u ∧ Up w w' ∧ LsN w.heap.size w' u (readsF e) :=
  callsIn_wide.1 (ex_Reads_in N e v w hv ht)
theorem range_sub {w : World} {g o : Nat} {cs : Array Value} (a n : Nat) (h : w.rangeAt g o cs.toList) : w.rangeAt g (o + a) (cs.extract a (a + n)).toList := fun j v hv => by
  have h1 : cs.toList[a + j]? = some v := by
    rw [Array.getElem?_toList] at hv ⊢
    rw [Array.getElem?_extract] at hv
    split at hv
    · exact hv
    · cases hv
  have := h (a + j) v h1
  rw [Nat.add_assoc]
  exact this
theorem box_one {w : World} {g : Nat} {t : TypeId} {a : Value} (h : BoxC w g t #[a]) : w.cell? ⟨g, 0, none⟩ = some a := cell_of_row _ _ _ _ _ _ h

theorem prog_infoI : (Tryz.prog.info? 27).map (·.size) = some 5 := by kernel_rfl
set_option maxHeartbeats 4000000 in
theorem p_name (cs : Array Value) (nm s : ByteArray) (g : Nat) (w : World) (hs : cs.size = 22) (h0 : cs.getD 0 undef = .string nm) (hb : BoxC w g 9 #[.string s]) :
    Calls Tryz.prog 55 #[.agg cs, .pointer (some ⟨g, 0, none⟩)] w fun e w' => e = .returned (.bool (decide (nm = s))) ∧ Up w w' := by
  have HU := Lib.hid ((Up.refl w).alloc (.cells cs 50))
  have hb1 := hb.up HU.out
  have c0 := (BoxC.new w 50 cs).at h0 (by rw [hs]; decide)
  have c1 := box_one hb1
  have q := tl_eq nm s
  clear hb hb1 h0 hs
  go_enter Tryz.func55, Tryz.ntmps55
  go_wp2
  go_ret
  exact ⟨rfl, HU.out⟩
set_option maxHeartbeats 8000000 in
theorem p_IndexFunc (N : Nat) (defs : List Df) (s : ByteArray) (g0 : Nat) (v : Value) (w : World) (hv : LsAt 22 272 (defR N) w v defs) (hb : BoxC w g0 9 #[.string s]) :
    Calls Tryz.prog 54 #[v, .func (.func 55) #[] #[.pointer (some ⟨g0, 0, none⟩)]] w fun e w' => Up w w' ∧ ((e = .returned (.int .i64 (-1)) ∧ inF defs s = []) ∨ ∃ (i : Nat) (d : Df), e = .returned (.int .i64 i) ∧ defs[i]? = some d ∧ inF defs s = readsF d.body) := by
  obtain ⟨da, dc, rfl, -⟩ := hv.shape
  obtain ⟨dn, hdn⟩ : ∃ q, defs.length = q := ⟨_, rfl⟩
  have hdI : (defs.length : Int) ≤ 140737488351232 := by have := hv.bytes; omega
  rw [hdn] at hv hdI ⊢
  have HD := Lib.hid hv
  have HDN := Lib.hid hdn
  have HBS := Lib.hid hb
  obtain ⟨R, hR⟩ : ∃ R, inF defs s = R := ⟨_, rfl⟩
  have HR0 : Hid (inF (defs.drop 0) s = R) := Lib.hid hR
  rw [hR]
  clear hv hdn hb hR
  go_enter Tryz.func54, Tryz.ntmps54
  go_wp2
  go_loopw [8] (fun iv wr => ∃ i : Nat, iv = .int .i64 i ∧ i ≤ dn ∧ inF (defs.drop i) s = R ∧ Up w wr) (fun iv _ => dn - (intOf iv).toNat)
  case atStart => exact ⟨0, rfl, Nat.zero_le _, HR0.out, Up.refl _⟩
  case round =>
    rename World => wr
    obtain ⟨i, rfl, hi, hP, hup⟩ := hrel
    have HU := Lib.hid hup
    have HP := Lib.hid hP
    clear hup hP HR0
    by_cases hlt : i < dn
    · have hltI : (i : Int) < dn := by omega
      have hi1 : i < defs.length := by rw [HDN.out]; exact hlt
      obtain ⟨g, o, cs, rfl, hg, hc, hld, h0, hsz, hnm⟩ := HD.out.def i hi1
      have HIN := Lib.hid (inF_drop (s := s) HDN.out hlt)
      have hg' := Nat.lt_of_lt_of_le hg HU.out.size
      have HLD := Lib.hid (hld wr HU.out)
      have HN := Lib.hid (p_name cs defs[i].nm s g0 wr hc.1 h0 (HBS.out.up HU.out))
      clear hnm hld hsz h0 hc hg
      by_cases e : defs[i].nm = s
      · rw [decide_eq_true e] at HN
        have HE : Hid (R = readsF defs[i].body) := Lib.hid (by rw [← HP.out, HIN.out, if_pos e])
        have HI1 := Lib.hid (List.getElem?_eq_getElem hi1)
        clear e HIN
        go_wp2_with (first
          | (refine st_load HLD.out (by rfl) ?_)
          | (go_at_call 55; (with_reducible refine HN.out.mono ?_); rintro e' y ⟨rfl, hy⟩; have HY := Lib.hid (HU.out.trans hy); clear hy))
        go_ret
        exact ⟨HY.out, .inr ⟨i, _, rfl, HI1.out, HE.out⟩⟩
      · rw [decide_eq_false e] at HN
        have HE : Hid (inF (defs.drop (i + 1)) s = R) := Lib.hid (by rw [← HP.out, HIN.out, if_neg e])
        clear e hi1 HIN
        go_wp2_with (first
          | (refine st_load HLD.out (by rfl) ?_)
          | (go_at_call 55; (with_reducible refine HN.out.mono ?_); rintro e' y ⟨rfl, hy⟩; have HY := Lib.hid (HU.out.trans hy); clear hy))
        go_roundw
        case rel => exact ⟨i + 1, by go_num, by omega, HE.out, HY.out⟩
        case measure => simp [intOf]; omega
    · obtain rfl : i = dn := by omega
      have HE : Hid (R = []) := Lib.hid (by rw [← HP.out, List.drop_of_length_le (by rw [HDN.out]; exact Nat.le_refl _)]; rfl)
      go_wp2
      go_ret
      exact ⟨HU.out, .inl ⟨rfl, HE.out⟩⟩
set_option maxHeartbeats 4000000 in
theorem p_IndexOf (N : Nat) (p : Pg) (v : Value) (s : ByteArray) (w : World) (hv : ProgAt N w v p) :
    Calls Tryz.prog 31 #[v, .string s] w fun e w' => Up w w' ∧ ((e = .returned (.int .i64 (-1)) ∧ inF p.defs s = []) ∨ ∃ (i : Nat) (d : Df), e = .returned (.int .i64 i) ∧ p.defs[i]? = some d ∧ inF p.defs s = readsF d.body) := by
  obtain ⟨sa, sc, ca, cc, pa, pc, da, dc, oa, oc, rfl, hs, hcn, hp, hd, ho⟩ := hv.open
  obtain ⟨sizes, cons, pars, defs, outs⟩ := p
  dsimp only at *
  obtain ⟨sn, hsn⟩ : ∃ q, sizes.length = q := ⟨_, rfl⟩
  obtain ⟨cn, hcnn⟩ : ∃ q, cons.length = q := ⟨_, rfl⟩
  obtain ⟨pn, hpn⟩ : ∃ q, pars.length = q := ⟨_, rfl⟩
  obtain ⟨dn, hdn⟩ : ∃ q, defs.length = q := ⟨_, rfl⟩
  obtain ⟨on_, hon⟩ : ∃ q, outs.length = q := ⟨_, rfl⟩
  rw [hsn] at hs hv ⊢
  rw [hcnn] at hcn hv ⊢
  rw [hpn] at hp hv ⊢
  rw [hdn] at hd hv ⊢
  rw [hon] at ho hv ⊢
  have hdI : (dn : Int) ≤ 140737488351232 := by have := hd.bytes; rw [hdn] at this; omega
  have hpI : (pn : Int) ≤ 140737488351232 := by have := hp.bytes; rw [hpn] at this; omega
  have HV := Lib.hid hv
  have HS := Lib.hid hs
  have HC := Lib.hid hcn
  have HP := Lib.hid hp
  have HD := Lib.hid hd
  have HO := Lib.hid ho
  have HPN := Lib.hid hpn
  have HDN := Lib.hid hdn
  have HON := Lib.hid hon
  clear hs hcn hp hd ho hsn hcnn hpn hdn hon hv

  have HU1 := Lib.hid (((Up.refl w).alloc (.cells #[.slice sa sn sc, .slice ca cn cc, .slice pa pn pc, .slice da dn dc, .slice oa on_ oc] 27)).alloc (.cells #[.string s] 9))
  have c3 : ((w.alloc (.cells #[.slice sa sn sc, .slice ca cn cc, .slice pa pn pc, .slice da dn dc, .slice oa on_ oc] 27)).alloc (.cells #[.string s] 9)).cell? ⟨w.heap.size, 3, none⟩ = some (.slice da dn dc) := cell_of_row _ _ _ _ _ _ ((BoxC.new w 27 #[.slice sa sn sc, .slice ca cn cc, .slice pa pn pc, .slice da dn dc, .slice oa on_ oc]).up ((Up.refl _).alloc (.cells #[.string s] 9)))
  have HC1 := Lib.hid (p_IndexFunc N defs s (w.heap.size + 1) _ _ (HD.out.up (defR_up N) HU1.out) (BoxC.new2 w _ _ _))
  go_enter Tryz.func31, Tryz.ntmps31
  go_wp2_with (go_at_call 54; (with_reducible refine HC1.out.mono ?_); rintro e' y ⟨hy, (⟨rfl, hR⟩ | ⟨i, d, rfl, hdd, hR⟩)⟩ <;> (have HY := Lib.hid (HU1.out.trans hy); have HR := Lib.hid hR; clear hy hR))
  · go_ret
    exact ⟨HY.out, .inl ⟨rfl, HR.out⟩⟩
  · go_ret
    exact ⟨HY.out, .inr ⟨i, d, rfl, hdd, HR.out⟩⟩
set_option maxHeartbeats 4000000 in
theorem p_Inputs (N : Nat) (p : Pg) (v : Value) (s : ByteArray) (w : World) (hv : ProgAt N w v p) (hb : ∀ d ∈ p.defs, tot d.body ≤ 1500) :
    Calls Tryz.prog 15 #[v, .string s] w fun e w' => ∃ u, e = .returned u ∧ Up w w' ∧ LsN w.heap.size w' u (inF p.defs s) := by
  obtain ⟨sa, sc, ca, cc, pa, pc, da, dc, oa, oc, rfl, hs, hcn, hp, hd, ho⟩ := hv.open
  obtain ⟨sizes, cons, pars, defs, outs⟩ := p
  dsimp only at *
  obtain ⟨sn, hsn⟩ : ∃ q, sizes.length = q := ⟨_, rfl⟩
  obtain ⟨cn, hcnn⟩ : ∃ q, cons.length = q := ⟨_, rfl⟩
  obtain ⟨pn, hpn⟩ : ∃ q, pars.length = q := ⟨_, rfl⟩
  obtain ⟨dn, hdn⟩ : ∃ q, defs.length = q := ⟨_, rfl⟩
  obtain ⟨on_, hon⟩ : ∃ q, outs.length = q := ⟨_, rfl⟩
  rw [hsn] at hs hv ⊢
  rw [hcnn] at hcn hv ⊢
  rw [hpn] at hp hv ⊢
  rw [hdn] at hd hv ⊢
  rw [hon] at ho hv ⊢
  have hdI : (dn : Int) ≤ 140737488351232 := by have := hd.bytes; rw [hdn] at this; omega
  have hpI : (pn : Int) ≤ 140737488351232 := by have := hp.bytes; rw [hpn] at this; omega
  have HV := Lib.hid hv
  have HS := Lib.hid hs
  have HC := Lib.hid hcn
  have HP := Lib.hid hp
  have HD := Lib.hid hd
  have HO := Lib.hid ho
  have HPN := Lib.hid hpn
  have HDN := Lib.hid hdn
  have HON := Lib.hid hon
  clear hs hcn hp hd ho hsn hcnn hpn hdn hon hv

  have HIX := Lib.hid (fun y (hy : Up w y) => p_IndexOf N _ _ s y (HV.out.up hy))
  dsimp only at HIX
  have HBT := Lib.hid hb
  obtain ⟨R, hR⟩ : ∃ R, inF defs s = R := ⟨_, rfl⟩
  rw [hR] at HIX ⊢
  clear hb hR
  have HU0 : Hid (Up w (w.alloc (.cells #[.slice sa sn sc, .slice ca cn cc, .slice pa pn pc, .slice da dn dc, .slice oa on_ oc] 27))) := Lib.hid ((Up.refl w).alloc _)
  have HB0 := Lib.hid (BoxC.new w 27 #[.slice sa sn sc, .slice ca cn cc, .slice pa pn pc, .slice da dn dc, .slice oa on_ oc])

  have HLP := Lib.hid (run_cs (P := Tryz.prog) Tryz.underlying27 rfl prog_infoI (w := w.alloc (.cells #[.slice sa sn sc, .slice ca cn cc, .slice pa pn pc, .slice da dn dc, .slice oa on_ oc] 27)) (cs := #[.slice sa sn sc, .slice ca cn cc, .slice pa pn pc, .slice da dn dc, .slice oa on_ oc]) rfl HB0.out.range)
  go_enter Tryz.func15, Tryz.ntmps15
  go_wp2_with (first
    | (refine st_load HLP.out (by rfl) ?_)
    | (refine st_load HLE.out (by rfl) ?_)
    | (go_at_call 32; (with_reducible refine HRD.out.mono ?_); rintro e' y2 ⟨u, rfl, hy, hu⟩; have HY2 := Lib.hid (HY.out.trans hy); have HL := Lib.hid hu; clear hy hu)
    | (go_at_call 31; (with_reducible refine (HIX.out _ HU0.out).mono ?_); rintro e' y ⟨hy, (⟨rfl, hR⟩ | ⟨i, d, rfl, hdd, hR⟩)⟩ <;> (have HY := Lib.hid (HU0.out.trans hy); have HR := Lib.hid hR; have HBY := Lib.hid (HB0.out.up hy); clear hy hR) <;> (try
        (obtain ⟨hi1, hd1⟩ := List.getElem?_eq_some_iff.1 hdd
         have HTB := Lib.hid (HBT.out _ (List.getElem_mem hi1))
         obtain ⟨g, o, cs, rfl, hg, hc, hr⟩ := HD.out.row (defR_k N) i hi1
         rw [hd1] at hc HTB
         have hiI : (i : Int) < dn := by have h := HDN.out; rw [h] at hi1; omega
         have hi2 : i < dn := by omega
         have hg' := Nat.lt_of_lt_of_le hg HY.out.size
         have b3 : y.cell? ⟨w.heap.size, 3, none⟩ = some (.slice (some ⟨g, o, none⟩) dn dc) := cell_of_row _ _ _ _ _ _ HBY.out
         have HLE := Lib.hid (run_ex hc.body.1 (range_sub 9 13 (hr y HY.out)))
         have HRD := Lib.hid (ex_Reads N d.body _ y (hc.body.ex.up HY.out) HTB.out)
         clear hdd hi1 hd1 hg hc hr))))
  · go_ret
    refine ⟨_, rfl, HY.out, ?_⟩
    rw [HR.out]; exact LsN.nil _ _
  · go_ret
    refine ⟨_, rfl, HY2.out, ?_⟩
    rw [HR.out]
    exact ⟨HL.out.1, HL.out.2.mono HY.out.size⟩
end Go.Proofs.YtpccaifhcmcegaaGreat
end

section
namespace Go.Proofs.YtpccaifhcmcegaaGreat
set_option linter.unusedSimpArgs false
open Go.ChangeShapes Go.WideShapes Go.ChangeAt Go.RowKit
set_option linter.unusedVariables false
set_option maxRecDepth 100000

/-- A parameter of a list: its name's cell. -/
theorem LsAt.par {w : World} {a : Option Addr} {n c : Nat} {l : List Par} (h : LsAt 7 80 parR w (.slice a n c) l) (i : Nat) (hi : i < l.length) :
    ∃ (g o : Nat) (cs : Array Value), a = some ⟨g, o, none⟩ ∧ g < w.heap.size ∧ CsAt 7 parR w cs l[i] ∧ (∀ y, Up w y → y.rangeAt g (o + i * 7) cs.toList) ∧ cs.getD 0 undef = .string l[i].1 ∧ l[i].1.size ≤ maxLen ∧ ∀ y, Up w y → y.cell? ⟨g, o + i * 7, none⟩ = some (.string l[i].1) := by
  obtain ⟨g, o, cs, e, hg, hc, hr⟩ := h.row parR_k i hi
  have h0 : cs.getD 0 undef = .string l[i].1 := hc.2.1.1
  refine ⟨g, o, cs, e, hg, hc, hr, h0, hc.2.1.2, fun y hy => ?_⟩
  have := hr y hy 0 (.string l[i].1) (by
    rw [← h0, Array.getElem?_toList, Array.getD_eq_getD_getElem?, Array.getElem?_eq_getElem (by rw [hc.1]; decide)]; rfl)
  exact this
/-- Names laid behind a list, each once. -/
theorem addU_take {α : Type} {f : α → ByteArray} {l : List α} {u : List ByteArray} {i n : Nat} (hn : l.length = n) (hi : i < n) : ((l.take (i + 1)).map f).foldl addU u = addU (((l.take i).map f).foldl addU u) (f (l[i]'(by omega))) := by
  subst hn
  rw [List.take_succ_eq_append_getElem hi, List.map_append, List.foldl_append]; rfl
def pnF (l : List Par) : List ByteArray := l.map (·.1)
def dnF (l : List Df) : List ByteArray := l.map (·.nm)
/-- All names in program order. -/
def ordF (p : Pg) : List ByteArray := (p.defs.map (·.nm)).foldl addU ((p.pars.map (·.1)).foldl addU [])
theorem ordF_len (p : Pg) : (ordF p).length ≤ p.pars.length + p.defs.length := by
  have h1 := foldl_addU_len (p.defs.map (·.nm)) ((p.pars.map (·.1)).foldl addU [])
  have h2 := foldl_addU_len (p.pars.map (·.1)) []
  rw [List.length_map] at h1 h2
  rw [List.length_nil] at h2
  unfold ordF; omega

end Go.Proofs.YtpccaifhcmcegaaGreat
end

section
namespace Go.Proofs.YtpccaifhcmcegaaGreat
set_option linter.unusedSimpArgs false
open Go.ChangeShapes Go.WideShapes Go.ChangeAt Go.RowKit
set_option linter.unusedVariables false
set_option maxRecDepth 100000

/-- The names of the definitions that read a name. -/
def rdB (s : ByteArray) (d : Df) : Bool := has (readsF d.body) s
def consF (l : List Df) (s : ByteArray) : List ByteArray := ((l.filter (rdB s)).map (·.nm)).foldl addU []
theorem cons_take {l : List Df} {s : ByteArray} {i n : Nat} (hn : l.length = n) (hi : i < n) : consF (l.take (i + 1)) s = if rdB s (l[i]'(by omega)) = true then addU (consF (l.take i) s) (l[i]'(by omega)).nm else consF (l.take i) s := by
  subst hn
  unfold consF
  rw [List.take_succ_eq_append_getElem hi, List.filter_append, List.map_append, List.foldl_append]
  cases h : rdB s l[i]
  · rw [List.filter_cons_of_neg (by rw [h]; decide)]; rfl
  · rw [List.filter_cons_of_pos h]; rfl
theorem consF_len (l : List Df) (s : ByteArray) : (consF l s).length ≤ l.length := by
  have h1 := foldl_addU_len ((l.filter (rdB s)).map (·.nm)) []
  have h2 := List.length_filter_le (rdB s) l
  rw [List.length_map] at h1
  simp only [List.length_nil] at h1
  unfold consF; omega

end Go.Proofs.YtpccaifhcmcegaaGreat
end
