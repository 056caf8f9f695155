/-
  Levels of the reference 20. Printed by mkDgV.py.
-/
import Derived.Test.YtpccaifhcmcegaaDgVp
namespace Go.Proofs.Ytpccaifhcmcegaa
set_option linter.unusedSimpArgs false
open Go.ChangeShapes Go.WideShapes Go.ChangeAt Go.RowKit
set_option linter.unusedVariables false
set_option maxRecDepth 100000

theorem int_info : (Try.prog.info? 3).map (fun i => (i.zero, i.size, i.bytes)) = some (some (.int .i64 0), 1, 8) := by kernel_rfl
theorem strs_info : (Try.prog.info? 22).map (fun i => (i.zero, i.size, i.bytes)) = some (some (.slice none 0 0), 1, 24) := by kernel_rfl
theorem rowT_int : RowT 73 3 1 8 := rowT_of Try.underlying73 int_info rfl (by decide)
theorem rowT_strs : RowT 36 22 1 24 := rowT_of Try.underlying36 strs_info rfl (by decide)
def intQ (f : Nat → Value) (n : Nat) : Prop := f 0 = .int .i64 n
theorem intQ_one : ∀ (f : Nat → Value) x, intQ f x → ∀ j, j < 1 → (f j).oneCell' = true := fun f x h j hj => by
  obtain rfl : j = 0 := by omega
  rw [h]; rfl
/-- A row of numbers of the call's own. -/
abbrev OwnI (base : Nat) (w : World) (v : Value) (l : List Nat) : Prop := OwnR 1 intQ base 3 w v l
/-- A row of rows of texts of the call's own: each is a row of its own. -/
def innR : Rel (List ByteArray) := fun w f l => OwnS 0 w (f 0) l ∧ l.length ≤ 1000000
abbrev OwnW (base : Nat) (w : World) (v : Value) (l : List (List ByteArray)) : Prop := OwnL 1 innR base 22 w v l
theorem inn_up : UpR innR := fun _ _ _ _ h u => ⟨OwnL.up (fun _ _ _ _ h _ => h) h.1 u, h.2⟩
theorem OwnL.blk {α : Type} {k : Nat} {R : Rel α} {base : Nat} {e : TypeId} {w : World} {v : Value} {l : List α} (h : OwnL k R base e w v l) : ∀ g, v.ownBlock = some g → ∃ cs, w.heap[g]? = some (.cells cs e (0, 0)) := fun g hg => by
  obtain ⟨F, h1, _⟩ := h
  rcases h1.2 with ⟨rfl, _⟩ | ⟨g', cap, cur, rfl, _, hh, _⟩
  · cases hg
  · have e : g' = g := by simpa [Value.ownBlock] using hg
    rw [← e]
    exact ⟨_, hh⟩
/-- Rows of different types lie apart. -/
theorem apart_ty {α β : Type} {k k' : Nat} {R : Rel α} {S : Rel β} {base base' : Nat} {e e' : TypeId} {w : World} {v v' : Value} {l : List α} {l' : List β} (h : OwnL k R base e w v l) (h' : OwnL k' S base' e' w v' l') (hne : e ≠ e') : ∀ g, v.ownBlock = some g → some g ≠ v'.ownBlock := fun g hg e => by
  obtain ⟨cs, h1⟩ := h.blk g hg
  obtain ⟨cs', h2⟩ := h'.blk g e.symm
  rw [h1] at h2
  cases h2
  exact hne rfl
theorem OwnL.turn {α : Type} {k : Nat} {R S : Rel α} {base : Nat} {e : TypeId} {w : World} {v : Value} {l : List α} (h : OwnL k R base e w v l) (hRS : ∀ f x, R w f x → S w f x) : OwnL k S base e w v l := let ⟨F, h1, h2⟩ := h; ⟨F, h1, fun i hi => hRS _ _ (h2 i hi)⟩
/-- The rows in a row stay while a row of another type is written. -/
theorem inn_kept {β : Type} {k' : Nat} {S : Rel β} {base' : Nat} {e' : TypeId} {w w' : World} {v' : Value} {l' : List β} (h' : OwnL k' S base' e' w v' l') (hg : w.grownBy w' v'.ownBlock) (hne : 9 ≠ e') {f : Nat → Value} {l : List ByteArray} (h : innR w f l) : innR w' f l :=
  ⟨own_keptL h.1 hg (apart_ty h.1 h' hne), h.2⟩
def rowR : Rel (List ByteArray) := fun w f l => LsAt 1 16 strR w (f 0) l
theorem OwnW.ls {base : Nat} {w : World} {v : Value} {l : List (List ByteArray)} (h : OwnW base w v l) (hl : l.length ≤ 1000000) : LsAt 1 24 rowR w v l :=
  LsAt.turn (R := innR) (OwnL.ls h (by decide) (by omega)) fun f x hx => OwnL.ls hx.1 (by decide) (by have := hx.2; omega)
theorem int_ls {base : Nat} {w : World} {a : Option Addr} {n c : Nat} {l : List Nat} (h : OwnI base w (.slice a n c) l) (hl : l.length ≤ 1000000) (i : Nat) (hi : i < l.length) : ∃ (g o : Nat), a = some ⟨g, o, none⟩ ∧ g < w.heap.size ∧ ∀ y, Up w y → y.cell? ⟨g, o + i, none⟩ = some (.int .i64 (l[i] : Nat)) := by
  obtain ⟨F, h1, h2⟩ := h
  have hs : SlAt w (.slice a n c) l.length 1 F := SlAt.of_own h1 (by omega) fun i j hi hj => flat_get F _ _ _ _ hi hj
  obtain ⟨⟨a2, c2, e2, h0, hx⟩, _⟩ := hs
  cases e2
  cases a with
  | none => have := h0 rfl; omega
  | some x =>
    obtain ⟨g, o, sp⟩ := x
    obtain ⟨g1, g2, g3⟩ := hx _ rfl (by omega)
    obtain rfl : sp = none := g1
    refine ⟨g, o, rfl, g2, fun y hy => ?_⟩
    have := g3 i 0 hi (by decide)
    rw [Nat.mul_one, Nat.add_zero, h2 i hi] at this
    exact (hy.cell _ _ g2).trans this
theorem levP_nm {l : List Df} {i : Nat} (hi : i < l.length) (h : i < (levP l).length) : (levP l)[i].1 = l[i].nm := by
  have := levP_names l
  have h1 : ((levP l).map (·.1))[i]? = (l.map (·.nm))[i]? := by rw [this]
  rw [List.getElem?_map, List.getElem?_map, List.getElem?_eq_getElem h, List.getElem?_eq_getElem hi] at h1
  simpa using h1
theorem levP_lt {l : List Df} {x : ByteArray × Nat} (hx : x ∈ levP l) : x.2 < l.length := by
  have h1 := mxA_mem (levP l) 0 x hx
  have h2 := mxA_len l
  have e : mxA (levP l) = (levP l).foldl mxS 0 := rfl
  omega

theorem ret_max (q xl : Nat) : Value.int .i64 (if (q : Int) < (xl : Int) + 1 then (xl : Int) + 1 else (q : Int)) = .int .i64 ((max q (xl + 1) : Nat) : Int) := by
  congr 1
  split <;> omega
theorem rowP_big (l : List Df) (n : Nat) (h : mxA (levP l) ≤ n) : rowP (levP l) n = [] := by
  unfold rowP
  rw [List.filter_eq_nil_iff.2 fun x hx => ?_]; rfl
  have := mxA_mem (levP l) 0 x hx
  unfold lvB
  have e : mxA (levP l) = (levP l).foldl mxS 0 := rfl
  simp only [decide_eq_true_eq]
  omega
theorem inn_one {w : World} : ∀ (f : Nat → Value) x, innR w f x → ∀ j, j < 1 → (f j).oneCell' = true := fun f x h j hj => by
  obtain rfl : j = 0 := by omega
  obtain ⟨a, c, e⟩ := h.1.shape
  rw [e]; rfl

set_option maxHeartbeats 16000000 in
theorem r20_Levels (N : Nat) (p : Pg) (v : Value) (w : World) (hv : ProgAt N w v p) (hb : ∀ d ∈ p.defs, tot d.body ≤ 1500) (hsm : p.defs.length ≤ 40) :
    Calls Try.prog 19 #[v] w fun e w' => ∃ u, e = .returned u ∧ Up w w' ∧ LsAt 1 24 rowR w' u (lvF p.defs) := by
  obtain ⟨sa, sc, ca, cc, pa, pc, da, dc, oa, oc, rfl, hs, hcn, hp, hd, ho⟩ := hv.open
  obtain ⟨sizes, cons, pars, defs, outs⟩ := p
  dsimp only at *
  obtain ⟨sn, hsn⟩ : ∃ q, sizes.length = q := ⟨_, rfl⟩
  obtain ⟨cn, hcnn⟩ : ∃ q, cons.length = q := ⟨_, rfl⟩
  obtain ⟨pn, hpn⟩ : ∃ q, pars.length = q := ⟨_, rfl⟩
  obtain ⟨dn, hdn⟩ : ∃ q, defs.length = q := ⟨_, rfl⟩
  obtain ⟨on_, hon⟩ : ∃ q, outs.length = q := ⟨_, rfl⟩
  rw [hsn] at hs hv ⊢
  rw [hcnn] at hcn hv ⊢
  rw [hpn] at hp hv ⊢
  rw [hdn] at hd hv ⊢
  rw [hon] at ho hv ⊢
  have hdI : (dn : Int) ≤ 140737488351232 := by have := hd.bytes; rw [hdn] at this; omega
  have hpI : (pn : Int) ≤ 140737488351232 := by have := hp.bytes; rw [hpn] at this; omega
  have HV := Lib.hid hv
  have HS := Lib.hid hs
  have HC := Lib.hid hcn
  have HP := Lib.hid hp
  have HD := Lib.hid hd
  have HO := Lib.hid ho
  have HPN := Lib.hid hpn
  have HDN := Lib.hid hdn
  have HON := Lib.hid hon
  clear hs hcn hp hd ho hsn hcnn hpn hdn hon hv
  have HSM : Hid (dn ≤ 40) := Lib.hid (by rw [← HDN.out]; exact hsm)
  have HBT := Lib.hid hb
  have hdn40 : (dn : Int) ≤ 40 := by have := HSM.out; omega
  clear hb hsm
  have HU0 : Hid (Up w (w.alloc (.cells #[.slice sa sn sc, .slice ca cn cc, .slice pa pn pc, .slice da dn dc, .slice oa on_ oc] 27))) := Lib.hid ((Up.refl w).alloc _)
  have HB0 := Lib.hid (BoxC.new w 27 #[.slice sa sn sc, .slice ca cn cc, .slice pa pn pc, .slice da dn dc, .slice oa on_ oc])
  go_enter Try.func19, Try.ntmps19
  go_wp2
  go_loopw [4, 5] (fun lv iv wr => ∃ i : Nat, iv = .int .i64 i ∧ i ≤ dn ∧ Up w wr ∧ BoxC wr w.heap.size 27 #[.slice sa sn sc, .slice ca cn cc, .slice pa pn pc, .slice da dn dc, .slice oa on_ oc] ∧ OwnI (w.heap.size + 1) wr lv ((levP (defs.take i)).map (·.2))) (fun _ iv _ => dn - (intOf iv).toNat)
  case atStart => exact ⟨0, rfl, Nat.zero_le _, HU0.out, HB0.out, OwnL.nil⟩
  case round =>
    rename World => wr
    obtain ⟨i, rfl, hi, hup, hbx, hrow⟩ := hrel
    have HU := Lib.hid hup
    have HB := Lib.hid hbx
    have bx : wr.cell? ⟨w.heap.size, 3, none⟩ = some (.slice da dn dc) := cell_of_row _ _ _ _ _ _ hbx
    have bs : w.heap.size < wr.heap.size := hbx.lt
    obtain ⟨la, lc, rfl⟩ := hrow.shape
    have HLP : Hid ((levP (defs.take i)).length = i) := Lib.hid (by rw [levP_len, List.length_take, HDN.out]; omega)
    have HLT : Hid (((levP (defs.take i)).map (·.2)).length = i) := Lib.hid (by rw [List.length_map, HLP.out])
    rw [HLT.out] at hrow ⊢
    have HR := Lib.hid hrow
    have hi40 : (i : Int) ≤ 40 := by omega
    clear hup hbx hrow HU0 HB0
    by_cases hlt : i < dn
    · have hltI : (i : Int) < dn := by omega
      have hi1 : i < defs.length := by rw [HDN.out]; exact hlt
      obtain ⟨g, o, cs, rfl, hg, hcs, hld, -, -, -⟩ := HD.out.def i hi1
      have HTK0 := Lib.hid (levP_take HDN.out hlt)
      have HTB := Lib.hid (HBT.out _ (List.getElem_mem hi1))
      obtain ⟨d, hx⟩ : ∃ d, defs[i] = d := ⟨_, rfl⟩
      have HTK : Hid (levP (defs.take (i + 1)) = levP (defs.take i) ++ [(d.nm, levA (levP (defs.take i)) (readsF d.body))]) := Lib.hid (by rw [← hx]; exact HTK0.out)
      rw [hx] at hcs HTB
      have HRD := Lib.hid (fun y (hy : Up w y) => r20_Reads N d _ y (DefAt.up ⟨cs, rfl, hcs⟩ hy) HTB.out)
      have HLD := Lib.hid (hld wr HU.out)
      obtain ⟨R, hR⟩ : ∃ R, readsF d.body = R := ⟨_, rfl⟩
      rw [hR] at HRD HTK
      obtain ⟨A, hA⟩ : ∃ A, levP (defs.take i) = A := ⟨_, rfl⟩
      have HAE := Lib.hid hA
      have HAM : Hid (∀ x ∈ A, x.2 < 40) := Lib.hid (by
        intro x hx
        rw [← hA] at hx
        have h1 := levP_lt hx
        rw [List.length_take, HDN.out] at h1
        have := HSM.out
        omega)
      rw [hA] at HTK HR HLT HLP
      have HG := Lib.hid hg
      have hg' := Nat.lt_of_lt_of_le hg HU.out.size
      clear HTK0
      clear hx hld hcs hg hR hA hi1
      go_upto_region 8 with (first
        | (refine st_load HLD.out (by rfl) ?_)
        | (go_at_call 32; (with_reducible refine (HRD.out _ HU.out).mono ?_); rintro e' W2 ⟨u, rfl, hy, hu⟩; have HY := Lib.hid hy; have HL := Lib.hid hu.1; clear hy hu))
      have HU2 := Lib.hid (HU.out.trans HY.out)
      have HB2 := Lib.hid (HB.out.up HY.out)
      have HR2 := Lib.hid (OwnL.up (fun _ _ _ _ h _ => h) HR.out HY.out)
      have bx2 : W2.cell? ⟨w.heap.size, 3, none⟩ = some (.slice (some ⟨g, o, none⟩) dn dc) := cell_of_row _ _ _ _ _ _ HB2.out
      have bs2 := HB2.out.lt
      have hg2 := Nat.lt_of_lt_of_le HG.out HU2.out.size
      clear bx bs hg'
      have HI := Lib.hid hi
      have HLTI := Lib.hid hlt
      have HI40 := Lib.hid hi40
      clear hi hlt
      go_wp2
      go_loopw [6, 8] (fun nv kv y => ∃ (k q : Nat), kv = .int .i64 k ∧ nv = .int .i64 q ∧ k ≤ i ∧ q ≤ 40 ∧ y = W2 ∧ (A.take k).foldl (levS R) 0 = q) (fun _ kv _ => i - (intOf kv).toNat)
      case atStart => exact ⟨0, 0, rfl, rfl, Nat.zero_le _, by decide, rfl, rfl⟩
      case round =>
        obtain ⟨k, q, rfl, rfl, hk, hq, hw, hP⟩ := hrel
        replace hw := hw.symm
        subst hw
        have HP := Lib.hid hP
        have hqI : (q : Int) ≤ 40 := by omega
        clear hP
        by_cases hlk : k < i
        · have hlkI : (k : Int) < i := by omega
          have hk1 : k < defs.length := by rw [HDN.out]; have := HLTI.out; omega
          obtain ⟨g2, o2, ds, e2, hgd, -, -, -, -, hc⟩ := HD.out.def k hk1
          obtain ⟨rfl, rfl⟩ : g = g2 ∧ o = o2 := by simpa using e2
          have hkA : k < A.length := by rw [HLP.out]; exact hlk
          have HT2 := Lib.hid (levS_take (R := R) HLP.out hlk)
          rw [HP.out] at HT2
          have HNM : Hid (A[k].1 = defs[k].nm) := Lib.hid (by
            have h1 := levP_names (defs.take i)
            rw [HAE.out] at h1
            have h2 : (A.map (·.1))[k]? = ((defs.take i).map (·.nm))[k]? := by rw [h1]
            rw [List.getElem?_map, List.getElem?_map, List.getElem?_eq_getElem hkA, List.getElem?_eq_getElem (by rw [List.length_take]; omega), List.getElem_take] at h2
            simpa using h2)
          have HLV := Lib.hid (HAM.out _ (List.getElem_mem hkA))
          obtain ⟨lg, lo, hla, hlg, hlc⟩ := int_ls HR2.out (by rw [HLT.out]; omega) k (by rw [HLT.out]; exact hlk)
          rw [List.getElem_map] at hlc
          obtain ⟨x, hx⟩ : ∃ x, A[k]'hkA = x := ⟨_, rfl⟩
          have HT2 : Hid ((A.take (k + 1)).foldl (levS R) 0 = levS R q x) := Lib.hid (by rw [← hx]; exact HT2.out)
          rw [hx] at HNM HLV hlc
          obtain ⟨xn, xl⟩ := x
          dsimp only at HNM HLV hlc
          have hc1 := hc _ HU2.out
          rw [← HNM.out] at hc1
          have hl1 := hlc _ (Up.refl _)
          have hxl : (xl : Int) ≤ 39 := by have := HLV.out; omega
          obtain ⟨b, hb⟩ : ∃ b, has R xn = b := ⟨_, rfl⟩
          have HBB := Lib.hid hb
          subst hla
          clear HNM
          clear hx hc hk1 hkA hgd hb hlc e2
          cases b
          · have HE : Hid ((A.take (k + 1)).foldl (levS R) 0 = q) := Lib.hid (by rw [HT2.out]; unfold levS; rw [HBB.out]; rfl)
            go_wp2_with (go_at_call 27; (with_reducible refine (base_Has xn R _ _ HL.out false HBB.out).mono ?_); rintro e' x' ⟨rfl, hx'⟩; rw [hx']; clear hx' x')
            go_roundw
            case rel => exact ⟨k + 1, q, by go_num, rfl, by omega, hq, trivial, HE.out⟩
            case measure => simp [intOf]; omega
          · have HE : Hid ((A.take (k + 1)).foldl (levS R) 0 = max q (xl + 1)) := Lib.hid (by rw [HT2.out]; unfold levS; rw [HBB.out, if_pos rfl])
            go_wp2_with (go_at_call 27; (with_reducible refine (base_Has xn R _ _ HL.out true HBB.out).mono ?_); rintro e' x' ⟨rfl, hx'⟩; rw [hx']; clear hx' x')
            go_roundw
            case rel => exact ⟨k + 1, max q (xl + 1), by go_num, ret_max q xl, by omega, by omega, trivial, HE.out⟩
            case measure => simp [intOf]; omega
        · obtain rfl : i = k := by omega
          have HE : Hid (q = levA A R) := Lib.hid (by rw [← HP.out, List.take_of_length_le (by rw [HLP.out]; exact Nat.le_refl _)]; rfl)
          have HSI := Lib.hid (LsAt.laid (k := 1) (B := 8) (R := fun _ => intQ) (W := W2) (E := 3) (cs := #[.int .i64 q]) (x := q) rfl (by decide) rfl)
          have HUP2 := Lib.hid (OwnL.up (fun _ _ _ _ h _ => h) HR2.out ((Up.refl W2).alloc (.cells #[.int .i64 q] 3)))
          have hlt : i < dn := HLTI.out
          go_wp2_with (at_builtin; refine st_app (mm := 1) rowT_int intQ_one HLT.out (by rfl) (H := HUP2.out) (S := HSI.out) (by omega) (by decide) (by have := HB2.out.lt; simp only [World.size_alloc]; omega) (by rfl) (by rfl) ?_; intro ua uc w3 h1 h2 h3; have HR3 := Lib.hid h1; have HG3 := Lib.hid h2; clear h1 h2 h3)
          go_roundw
          case rel =>
            refine ⟨i + 1, by go_num, by omega, (HU2.out.alloc _).grown' HG3.out (fun k e => by have := HR2.out.base k e; omega), (HB2.out.up ((Up.refl _).alloc _)).kept HG3.out (fun e => by have := HR2.out.base _ e.symm; omega), ?_⟩
            rw [HTK.out, List.map_append, ← HE.out]
            exact HR3.out
          case measure => simp [intOf]; omega
    · obtain rfl : dn = i := by omega
      have HTK : Hid (defs.take dn = defs) := Lib.hid (List.take_of_length_le (by rw [HDN.out]; exact Nat.le_refl _))
      obtain ⟨A, hA⟩ : ∃ A, levP defs = A := ⟨_, rfl⟩
      have HAE := Lib.hid hA
      rw [HTK.out, hA] at HR HLT HLP
      clear hA HTK
      go_wp2
      have HU1 := Lib.hid HU.out
      have HB1 := Lib.hid HB.out
      have HR1 := Lib.hid HR.out
      obtain ⟨W1, hW1⟩ : ∃ x, wr = x := ⟨_, rfl⟩
      rw [hW1] at HU1 HB1 HR1 ⊢
      clear HU HB HR hW1 bx bs hlt hi hi40
      have HSZ := Lib.hid HB1.out.lt
      go_loopw [3, 9] (fun ov nv wr => ∃ n : Nat, nv = .int .i64 n ∧ n ≤ 40 ∧ (∀ j, j < n → rowP A j ≠ []) ∧ Up w wr ∧ BoxC wr w.heap.size 27 #[.slice sa sn sc, .slice ca cn cc, .slice pa pn pc, .slice da dn dc, .slice oa on_ oc] ∧ OwnI (w.heap.size + 1) wr (.slice la dn lc) (A.map (·.2)) ∧ OwnW (w.heap.size + 1) wr ov ((List.range n).map (rowP A))) (fun _ nv _ => 41 - (intOf nv).toNat)
      case atStart => exact ⟨0, rfl, Nat.zero_le _, fun j h => absurd h (Nat.not_lt_zero _), HU1.out, HB1.out, HR1.out, OwnL.nil⟩
      case round =>
        rename World => wr
        clear HU1 HB1 HR1
        obtain ⟨n, rfl, hn, hne, hup, hbx, hlev, hrow⟩ := hrel
        have HU := Lib.hid hup
        have HB := Lib.hid hbx
        have HI := Lib.hid hlev
        have HNE := Lib.hid hne
        have bx : wr.cell? ⟨w.heap.size, 3, none⟩ = some (.slice da dn dc) := cell_of_row _ _ _ _ _ _ hbx
        have bs : w.heap.size < wr.heap.size := hbx.lt
        obtain ⟨oa2, oc2, rfl⟩ := hrow.shape
        have HON2 : Hid (((List.range n).map (rowP A)).length = n) := Lib.hid (by simp)
        rw [HON2.out] at hrow ⊢
        have HO2 := Lib.hid hrow
        have hnI : (n : Int) ≤ 40 := by omega
        clear hup hbx hlev hrow hne
        by_cases hd0 : dn = 0
        · subst hd0
          have HA0 : Hid (defs = []) := Lib.hid (List.eq_nil_of_length_eq_zero HDN.out)
          have HN0 : Hid (n = 0) := Lib.hid (by
            by_cases h : n = 0
            · exact h
            · have := HNE.out 0 (by omega)
              rw [← HAE.out, HA0.out] at this
              exact absurd rfl this)
          go_wp2
          go_ret
          refine ⟨_, rfl, HU.out, ?_⟩
          have h1 := OwnW.ls HO2.out (by rw [HON2.out]; omega)
          rw [show lvF defs = (List.range n).map (rowP A) by rw [HN0.out, HA0.out]; rfl]
          exact h1
        · have hd0I : (0 : Int) < dn := by omega
          have HWN := Lib.hid (Up.refl wr)
          obtain ⟨Wn, hWn⟩ : ∃ x, wr = x := ⟨_, rfl⟩
          rw [hWn] at HU HB HI HO2 bx bs ⊢
          clear hWn HWN
          go_wp2
          go_loopw [10, 11] (fun rv iv y => ∃ i : Nat, iv = .int .i64 i ∧ i ≤ dn ∧ Up Wn y ∧ OwnS Wn.heap.size y rv (rowP (A.take i) n)) (fun _ iv _ => dn - (intOf iv).toNat)
          case atStart => exact ⟨0, rfl, Nat.zero_le _, Up.refl _, OwnL.nil⟩
          case round =>
            rename World => y
            obtain ⟨i, rfl, hi, hup, hrow⟩ := hrel
            have HUY := Lib.hid hup
            have HUW := Lib.hid (HU.out.trans hup)
            have bx2 : y.cell? ⟨w.heap.size, 3, none⟩ = some (.slice da dn dc) := cell_of_row _ _ _ _ _ _ (HB.out.up hup)
            have bs2 := (HB.out.up hup).lt
            obtain ⟨U, hU⟩ : ∃ U, rowP (A.take i) n = U := ⟨_, rfl⟩
            have HUE := Lib.hid hU
            have HLN : Hid (U.length ≤ 40) := Lib.hid (by
              rw [← hU]
              have h1 := rowP_len (A.take i) n
              rw [List.length_take, HLP.out] at h1
              have := HSM.out
              omega)
            rw [hU] at hrow
            obtain ⟨va, vc, rfl⟩ := hrow.shape
            have HR := Lib.hid hrow
            obtain ⟨m, hm⟩ : ∃ m, U.length = m := ⟨_, rfl⟩
            rw [hm] at HR HLN ⊢
            have HM := Lib.hid hm
            have hm40 : m ≤ 40 := HLN.out
            have hmI : (m : Int) ≤ 40 := by omega
            clear hup hrow hU hm bx bs
            by_cases hlt : i < dn
            · have hltI : (i : Int) < dn := by omega
              have hi1 : i < defs.length := by rw [HDN.out]; exact hlt
              have hiA : i < A.length := by rw [HLP.out]; exact hlt
              obtain ⟨g, o, cs, rfl, hg, -, -, -, hsz, hc⟩ := HD.out.def i hi1
              have HT0 := Lib.hid (rowP_take (k := n) HLP.out hlt)
              rw [HUE.out] at HT0
              have HNM : Hid (A[i].1 = defs[i].nm) := Lib.hid (by
                have h1 := levP_names defs
                rw [HAE.out] at h1
                have h2 : (A.map (·.1))[i]? = (defs.map (·.nm))[i]? := by rw [h1]
                rw [List.getElem?_map, List.getElem?_map, List.getElem?_eq_getElem hiA, List.getElem?_eq_getElem hi1] at h2
                simpa using h2)
              obtain ⟨lg, lo, hla, hlg, hlc⟩ := int_ls (OwnL.up (fun _ _ _ _ h _ => h) HI.out HUY.out) (by rw [HLT.out]; omega) i (by rw [HLT.out]; exact hlt)
              rw [List.getElem_map] at hlc
              obtain ⟨x, hx⟩ : ∃ x, A[i]'hiA = x := ⟨_, rfl⟩
              have HT : Hid (rowP (A.take (i + 1)) n = if x.2 = n then U ++ [x.1] else U) := Lib.hid (by rw [← hx]; exact HT0.out)
              rw [hx] at HNM hlc
              obtain ⟨xn, xl⟩ := x
              dsimp only at HNM hlc HT
              have hc1 := hc _ HUW.out
              rw [← HNM.out] at hc1 hsz
              have HSZX := Lib.hid hsz
              have hl1 := hlc _ (Up.refl _)
              have hg' := Nat.lt_of_lt_of_le hg HUW.out.size
              subst hla
              clear HNM HT0
              clear hx hc hi1 hiA hg hlc hsz
              by_cases he : xl = n
              · have HE : Hid (rowP (A.take (i + 1)) n = U ++ [xn]) := Lib.hid (by rw [HT.out, if_pos he])
                subst he
                go_wp2_with (at_builtin; refine st_app (mm := 1) rowT_str strQ_one HM.out (by rfl) (H := OwnL.up (fun _ _ _ _ h _ => h) HR.out ((Up.refl _).alloc _)) (S := LsAt.one_str _ HSZX.out) (by have := HLN.out; omega) (by decide) (by have := HUY.out.size; simp only [World.size_alloc]; omega) (by rfl) (by rfl) ?_; intro ua uc w2 h1 h2 h3; have HR2 := Lib.hid h1; have HG2 := Lib.hid h2; have HO2 := Lib.hid h3; clear h1 h2 h3)
                go_roundw
                case rel => exact ⟨i + 1, by go_num, by omega, (HUY.out.alloc _).grown' HG2.out (fun k e => HR.out.base k e), by rw [HE.out]; exact HR2.out⟩
                case measure => simp [intOf]; omega
              · have HE : Hid (rowP (A.take (i + 1)) n = U) := Lib.hid (by rw [HT.out, if_neg he])
                have heq : ((xl : Int) == (n : Int)) = false := by simp; omega
                clear he
                go_wp2
                go_roundw
                case rel => exact ⟨i + 1, by go_num, by omega, HUY.out, by rw [HE.out]; exact HR.out⟩
                case measure => simp [intOf]; omega
            · obtain rfl : dn = i := by omega
              have HRE : Hid (rowP A n = U) := Lib.hid (by rw [← HUE.out, List.take_of_length_le (by rw [HLP.out]; exact Nat.le_refl _)])
              by_cases hm0 : m = 0
              · have HLV : Hid ((List.range n).map (rowP A) = lvF defs) := Lib.hid (by
                  have h1 : rowP A n = [] := by rw [HRE.out]; exact List.eq_nil_of_length_eq_zero (HM.out.trans hm0)
                  rw [← HAE.out] at h1 ⊢
                  exact lvF_of h1 (fun j hj => by rw [HAE.out]; exact HNE.out j hj))
                subst hm0
                go_wp2
                go_ret
                refine ⟨_, rfl, HUW.out, ?_⟩
                rw [← HLV.out]
                exact OwnW.ls (OwnL.up inn_up HO2.out HUY.out) (by rw [HON2.out]; omega)
              · have hm0I : ((m : Int) == 0) = false := by simp; omega
                have hne0 : Hid (rowP A n ≠ []) := Lib.hid (by
                  rw [HRE.out]
                  intro e
                  have := HM.out
                  rw [e] at this
                  exact hm0 this.symm)
                have hn39 : n < 40 := by
                  have h1 := hne0.out
                  have h2 : n < mxA (levP defs) := by
                    rcases Nat.lt_or_ge n (mxA (levP defs)) with h | h
                    · exact h
                    · exact absurd (rowP_big defs n h) (by rw [HAE.out]; exact h1)
                  have h3 := mxA_len defs
                  have := HSM.out
                  have := HDN.out
                  omega
                have HOY := Lib.hid (OwnL.up inn_up HO2.out HUY.out)
                have HOA := Lib.hid (OwnL.up inn_up HOY.out ((Up.refl y).alloc (.cells #[.slice va m vc] 22)))
                have HINN : Hid (innR (y.alloc (.cells #[.slice va m vc] 22)) (fun j => #[Value.slice va m vc].getD j undef) U) := Lib.hid ⟨OwnR.from (OwnL.up (fun _ _ _ _ h _ => h) HR.out ((Up.refl y).alloc _)) (Nat.zero_le _), by have := HM.out; omega⟩
                have HSI := Lib.hid (LsAt.laid (k := 1) (B := 24) (R := fun _ => innR (y.alloc (.cells #[.slice va m vc] 22))) (W := y) (E := 22) (cs := #[.slice va m vc]) (x := U) rfl (by decide) HINN.out)
                have HIY := Lib.hid (OwnL.up (fun _ _ _ _ h _ => h) HI.out HUY.out)
                go_wp2_with (at_builtin; refine st_app (R0 := innR (y.alloc (.cells #[.slice va m vc] 22))) (mm := 1) rowT_strs inn_one HON2.out (by rfl) (H := OwnL.turn HOA.out (fun _ _ h => h)) (S := HSI.out) (by omega) (by decide) (by have := HB.out.lt; have := HUY.out.size; simp only [World.size_alloc]; omega) (by rfl) (by rfl) ?_; intro ua uc w3 h1 h2 h3; have HR3 := Lib.hid h1; have HG3 := Lib.hid h2; clear h1 h2 h3)
                go_roundw
                case rel =>
                  refine ⟨n + 1, by go_num, by omega, fun j hj => ?_, (HUW.out.alloc _).grown' HG3.out (fun k e => by have := HO2.out.base k e; omega), ((HB.out.up HUY.out).up ((Up.refl _).alloc _)).kept HG3.out (fun e => by have := HO2.out.base _ e.symm; omega), own_keptL (OwnL.up (fun _ _ _ _ h _ => h) HIY.out ((Up.refl _).alloc _)) HG3.out (apart_ty (OwnL.up (fun _ _ _ _ h _ => h) HIY.out ((Up.refl _).alloc _)) HOA.out (by decide)), ?_⟩
                  · by_cases hjn : j = n
                    · rw [hjn]; exact hne0.out
                    · exact HNE.out j (by omega)
                  · rw [range_snoc, HRE.out]
                    exact OwnL.turn HR3.out fun f x hx => inn_kept HOA.out HG3.out (by decide) hx
                case measure => simp [intOf]; omega
end Go.Proofs.Ytpccaifhcmcegaa
