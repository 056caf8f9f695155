/-
  Joined by a program: Dg8, Dg9.
-/
import Derived.Test.YtpccaifhcmcegaaGe

section
namespace Go.Proofs.Ytpccaifhcmcegaa
set_option linter.unusedSimpArgs false
open Go.ChangeShapes Go.WideShapes Go.ChangeAt Go.RowKit
set_option linter.unusedVariables false
set_option maxRecDepth 100000

/-- A definition as a value. -/
def DefAt (N : Nat) (w : World) (v : Value) (d : Df) : Prop := ∃ cs : Array Value, v = .agg cs ∧ CsAt 22 (defR N) w cs d
theorem DefAt.up {N : Nat} {w w' : World} {v : Value} {d : Df} (h : DefAt N w v d) (u : Up w w') : DefAt N w' v d := let ⟨f, h1, h2⟩ := h; ⟨f, h1, h2.up (defR_k N) u⟩

set_option maxHeartbeats 4000000 in
theorem r20_Reads (N : Nat) (d : Df) (v : Value) (w : World) (hv : DefAt N w v d) (ht : tot d.body ≤ 1500) :
    Calls Try.prog 32 #[v] w fun e' w' => ∃ u, e' = .returned u ∧ Up w w' ∧ LsN w.heap.size w' u (readsF d.body) := by
  obtain ⟨cs, rfl, hd⟩ := hv
  have HB := Lib.hid (fun y (hy : Up w y) => r14_Reads N d.body _ y (hd.body.ex.up hy) ht)
  have HU0 : Hid (Up w (w.alloc (.cells cs 59))) := Lib.hid ((Up.refl w).alloc _)
  have hld := Lib.hid <| run_ex hd.body.1 ((BoxC.new w 59 cs).sub 9 13)
  generalize cs.extract 9 (9 + 13) = es at *
  clear hd ht
  go_enter Try.func32, Try.ntmps32
  go_wp2_with (first | (refine st_load hld.out (by rfl) ?_) | (go_at_call 46; refine (HB.out _ HU0.out).mono ?_; rintro e' y ⟨u, rfl, hy, hu⟩; have HY := Lib.hid (HU0.out.trans hy); have HL : Hid (LsN w.heap.size y u (readsF d.body)) := Lib.hid ⟨hu.1, hu.2.mono HU0.out.size⟩; clear hy hu))
  go_ret
  exact ⟨_, rfl, HY.out, HL.out⟩
end Go.Proofs.Ytpccaifhcmcegaa
end

section
namespace Go.Proofs.Ytpccaifhcmcegaa
set_option linter.unusedSimpArgs false
open Go.ChangeShapes Go.WideShapes Go.ChangeAt Go.RowKit
set_option linter.unusedVariables false
set_option maxRecDepth 100000

theorem sum_mem {α : Type} (f : α → Nat) : ∀ (l : List α) (x : α), x ∈ l → f x ≤ (l.map f).sum
  | [], x, h => by cases h
  | y :: r, x, h => by
    rw [List.map_cons, List.sum_cons]
    rcases List.mem_cons.1 h with rfl | h
    · omega
    · have := sum_mem f r x h; omega
theorem SmallP.body {p : Pg} (h : SmallP p) {d : Df} (hd : d ∈ p.defs) : tot d.body ≤ 1500 := by
  have h1 := sum_mem defW p.defs d hd
  have h2 := h.sum
  have h3 : defW d = d.dims.length + d.red.length + tot d.body := rfl
  omega
/-- The names that the definition of a name reads. -/
def inF : List Df → ByteArray → List ByteArray
  | [], _ => []
  | d :: r, s => if d.nm = s then readsF d.body else inF r s
theorem inF_drop {l : List Df} {s : ByteArray} {i n : Nat} (hn : l.length = n) (hi : i < n) : inF (l.drop i) s = if (l[i]'(by omega)).nm = s then readsF (l[i]'(by omega)).body else inF (l.drop (i + 1)) s := by
  rw [drop_eq hn hi, inF]
/-- A definition of a list: its cells, and its name's cell. -/
theorem LsAt.def {N : Nat} {w : World} {a : Option Addr} {n c : Nat} {l : List Df} (h : LsAt 22 272 (defR N) w (.slice a n c) l) (i : Nat) (hi : i < l.length) :
    ∃ (g o : Nat) (cs : Array Value), a = some ⟨g, o, none⟩ ∧ g < w.heap.size ∧ CsAt 22 (defR N) w cs l[i] ∧ (∀ y, Up w y → (Instr.loadAt 59 (.pointer (some ⟨g, o + i * 22, none⟩))).run Try.prog y = .ok (.agg cs) y) ∧ cs.getD 0 undef = .string l[i].nm ∧ l[i].nm.size ≤ maxLen ∧ ∀ y, Up w y → y.cell? ⟨g, o + i * 22, none⟩ = some (.string l[i].nm) := by
  obtain ⟨g, o, cs, e, hg, hc, hr⟩ := h.row (defR_k N) i hi
  have h0 : cs.getD 0 undef = .string l[i].nm := hc.2.1.1
  refine ⟨g, o, cs, e, hg, hc, fun y hy => run_def hc.1 (hr y hy), h0, hc.2.1.2, fun y hy => ?_⟩
  have := hr y hy 0 (.string l[i].nm) (by
    rw [← h0, Array.getElem?_toList, Array.getD_eq_getD_getElem?, Array.getElem?_eq_getElem (by rw [hc.1]; decide)]; rfl)
  exact this

theorem LsAt.defn {N : Nat} {w : World} {a : Option Addr} {n c : Nat} {l : List Df} (h : LsAt 22 272 (defR N) w (.slice a n c) l) (i : Nat) (hi : i < l.length) :
    ∃ (g o : Nat) (cs : Array Value), a = some ⟨g, o, none⟩ ∧ g < w.heap.size ∧ CsAt 22 (defR N) w cs l[i] ∧ (∀ y, Up w y → (Instr.loadAt 59 (.pointer (some ⟨g, o + i * 22, none⟩))).run Try.prog y = .ok (.agg cs) y) ∧ cs.getD 0 undef = .string l[i].nm ∧ l[i].nm.size ≤ maxLen ∧ ∀ y, Up w y → y.cell? ⟨g, o + i * 22, none⟩ = some (.string l[i].nm) := h.def i hi

set_option maxHeartbeats 8000000 in
theorem r20_Inputs (N : Nat) (p : Pg) (v : Value) (s : ByteArray) (w : World) (hv : ProgAt N w v p) (hb : ∀ d ∈ p.defs, tot d.body ≤ 1500) :
    Calls Try.prog 13 #[v, .string s] w fun e w' => ∃ u, e = .returned u ∧ Up w w' ∧ LsN w.heap.size w' u (inF p.defs s) := by
  obtain ⟨sa, sc, ca, cc, pa, pc, da, dc, oa, oc, rfl, hs, hcn, hp, hd, ho⟩ := hv.open
  obtain ⟨sizes, cons, pars, defs, outs⟩ := p
  dsimp only at *
  obtain ⟨sn, hsn⟩ : ∃ q, sizes.length = q := ⟨_, rfl⟩
  obtain ⟨cn, hcnn⟩ : ∃ q, cons.length = q := ⟨_, rfl⟩
  obtain ⟨pn, hpn⟩ : ∃ q, pars.length = q := ⟨_, rfl⟩
  obtain ⟨dn, hdn⟩ : ∃ q, defs.length = q := ⟨_, rfl⟩
  obtain ⟨on_, hon⟩ : ∃ q, outs.length = q := ⟨_, rfl⟩
  rw [hsn] at hs hv ⊢
  rw [hcnn] at hcn hv ⊢
  rw [hpn] at hp hv ⊢
  rw [hdn] at hd hv ⊢
  rw [hon] at ho hv ⊢
  have hdI : (dn : Int) ≤ 140737488351232 := by have := hd.bytes; rw [hdn] at this; omega
  have hpI : (pn : Int) ≤ 140737488351232 := by have := hp.bytes; rw [hpn] at this; omega
  have HV := Lib.hid hv
  have HS := Lib.hid hs
  have HC := Lib.hid hcn
  have HP := Lib.hid hp
  have HD := Lib.hid hd
  have HO := Lib.hid ho
  have HPN := Lib.hid hpn
  have HDN := Lib.hid hdn
  have HON := Lib.hid hon
  clear hs hcn hp hd ho hsn hcnn hpn hdn hon hv
  have HBT := Lib.hid hb
  obtain ⟨R, hR⟩ : ∃ R, inF defs s = R := ⟨_, rfl⟩
  rw [hR]
  have HR0 : Hid (inF (defs.drop 0) s = R) := Lib.hid hR
  clear hb hR
  have HU0 : Hid (Up w (w.alloc (.cells #[.slice sa sn sc, .slice ca cn cc, .slice pa pn pc, .slice da dn dc, .slice oa on_ oc] 27))) := Lib.hid ((Up.refl w).alloc _)
  have HB0 := Lib.hid (BoxC.new w 27 #[.slice sa sn sc, .slice ca cn cc, .slice pa pn pc, .slice da dn dc, .slice oa on_ oc])
  go_enter Try.func13, Try.ntmps13
  go_wp2
  go_loopw [5] (fun iv wr => ∃ i : Nat, iv = .int .i64 i ∧ i ≤ dn ∧ inF (defs.drop i) s = R ∧ Up w wr ∧ BoxC wr w.heap.size 27 #[.slice sa sn sc, .slice ca cn cc, .slice pa pn pc, .slice da dn dc, .slice oa on_ oc]) (fun iv _ => dn - (intOf iv).toNat)
  case atStart => exact ⟨0, rfl, Nat.zero_le _, HR0.out, HU0.out, HB0.out⟩
  case round =>
    rename World => wr
    obtain ⟨i, rfl, hi, hP, hup, hbx⟩ := hrel
    have HU := Lib.hid hup
    have HB := Lib.hid hbx
    have HP := Lib.hid hP
    have b3 : wr.cell? ⟨w.heap.size, 3, none⟩ = some (.slice da dn dc) := cell_of_row _ _ _ _ _ _ hbx
    have bs : w.heap.size < wr.heap.size := hbx.lt
    clear hup hbx hP HR0
    by_cases hlt : i < dn
    · have hltI : (i : Int) < dn := by omega
      have hi1 : i < defs.length := by rw [HDN.out]; exact hlt
      obtain ⟨g, o, cs, rfl, hg, hc, hld, h0, hsz, hnm⟩ := HD.out.def i hi1
      have HIN := Lib.hid (inF_drop (s := s) HDN.out hlt)
      have HTB := Lib.hid (HBT.out _ (List.getElem_mem hi1))
      obtain ⟨d, hx⟩ : ∃ d, defs[i] = d := ⟨_, rfl⟩
      rw [hx] at HTB h0 hsz hc hnm
      have HIN : Hid (inF (defs.drop i) s = if d.nm = s then readsF d.body else inF (defs.drop (i + 1)) s) := Lib.hid (by rw [← hx]; exact HIN.out)
      have HRD := Lib.hid (fun y (hy : Up w y) => r20_Reads N d _ y (DefAt.up ⟨cs, rfl, hc⟩ hy) HTB.out)
      have hg' := Nat.lt_of_lt_of_le hg HU.out.size
      have HLD := Lib.hid (hld wr HU.out)
      have e0 := hnm wr HU.out
      have q := tl_eq d.nm s
      obtain ⟨nm, hnm2⟩ : ∃ nm, d.nm = nm := ⟨_, rfl⟩
      rw [hnm2] at q e0 HIN
      clear hnm hnm2 hld hx hi1 h0 hsz hc
      by_cases e : nm = s
      · rw [decide_eq_true e] at q
        have HE : Hid (R = readsF d.body) := Lib.hid (by rw [← HP.out, HIN.out, if_pos e])
        clear e
        go_wp2_with (first | (refine st_load HLD.out (by rfl) ?_) | (go_at_call 32; refine (HRD.out _ HU.out).mono ?_; rintro e' y ⟨u, rfl, hy, hu⟩; have HY := Lib.hid (HU.out.trans hy); have HL := Lib.hid hu; clear hy hu))
        go_ret
        refine ⟨_, rfl, HY.out, ?_⟩
        rw [HE.out]
        exact ⟨HL.out.1, HL.out.2.mono HU.out.size⟩
      · rw [decide_eq_false e] at q
        have HE : Hid (inF (defs.drop (i + 1)) s = R) := Lib.hid (by rw [← HP.out, HIN.out, if_neg e])
        clear e
        go_wp2
        go_roundw
        case rel => exact ⟨i + 1, by go_num, by omega, HE.out, HU.out, HB.out⟩
        case measure => simp [intOf]; omega
    · obtain rfl : i = dn := by omega
      have HE : Hid (R = []) := Lib.hid (by rw [← HP.out, List.drop_of_length_le (by rw [HDN.out]; exact Nat.le_refl _)]; rfl)
      go_wp2
      go_ret
      exact ⟨_, rfl, HU.out, by rw [HE.out]; exact LsN.nil _ _⟩
end Go.Proofs.Ytpccaifhcmcegaa
end
