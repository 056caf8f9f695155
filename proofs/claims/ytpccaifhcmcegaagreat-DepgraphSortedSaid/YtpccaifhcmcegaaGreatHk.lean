/-
  Joined by a program: DgG, DgB, DgK.
-/
import Derived.Test.YtpccaifhcmcegaaGreatDgJ
import Derived.Test.YtpccaifhcmcegaaGreatHi
import Derived.Deep.LoopGhost
import Derived.Test.YtpccaifhcmcegaaGreatHc

section
namespace Go.Proofs.YtpccaifhcmcegaaGreat
set_option linter.unusedSimpArgs false
open Go.ChangeShapes Go.WideShapes Go.ChangeAt Go.RowKit
set_option linter.unusedVariables false
set_option maxRecDepth 100000

/-! ### The search with a stack -/
structure InvD (all : List ByteArray) (D : List Df) (fr F S : List ByteArray) : Prop where
  ok : ∀ x ∈ F, Rch all D fr x
  sk : ∀ x ∈ S, x ∈ all → Rch all D fr x
  st : ∀ x ∈ fr, x ∈ all → x ∈ F ∨ x ∈ S
  cl : ∀ x ∈ F, ∀ y ∈ inF D x, y ∈ all → y ∈ F ∨ y ∈ S
theorem InvD.start (all : List ByteArray) (D : List Df) (fr : List ByteArray) : InvD all D fr [] fr :=
  ⟨fun _ h => absurd h (by simp), fun _ h1 h2 => .base h1 h2, fun _ h _ => .inr h, fun _ h => absurd h (by simp)⟩
theorem InvD.skip {all : List ByteArray} {D : List Df} {fr F S : List ByteArray} {x : ByteArray} (h : InvD all D fr F (S ++ [x])) (hx : x ∈ all → x ∈ F) : InvD all D fr F S := by
  have k : ∀ y, y ∈ all → (y ∈ F ∨ y ∈ S ++ [x]) → y ∈ F ∨ y ∈ S := fun y hy e => by
    rcases e with e | e
    · exact .inl e
    · rcases List.mem_append.1 e with e | e
      · exact .inr e
      · rw [List.mem_singleton] at e; subst e; exact .inl (hx hy)
  exact ⟨h.ok, fun y hy ha => h.sk y (List.mem_append.2 (.inl hy)) ha, fun y hy ha => k y ha (h.st y hy ha), fun z hz y hy ha => k y ha (h.cl z hz y hy ha)⟩
theorem InvD.push {all : List ByteArray} {D : List Df} {fr F S : List ByteArray} {x : ByteArray} (h : InvD all D fr F (S ++ [x])) (hx : x ∈ all) : InvD all D fr (x :: F) (S ++ inF D x) := by
  have hr : Rch all D fr x := h.sk x (List.mem_append.2 (.inr (List.mem_singleton.2 rfl))) hx
  have k : ∀ y, (y ∈ F ∨ y ∈ S ++ [x]) → y ∈ x :: F ∨ y ∈ S ++ inF D x := fun y e => by
    rcases e with e | e
    · exact .inl (List.mem_cons_of_mem _ e)
    · rcases List.mem_append.1 e with e | e
      · exact .inr (List.mem_append.2 (.inl e))
      · rw [List.mem_singleton] at e; subst e; exact .inl List.mem_cons_self
  refine ⟨fun y hy => ?_, fun y hy ha => ?_, fun y hy ha => k y (h.st y hy ha), fun z hz y hy ha => ?_⟩
  · rcases List.mem_cons.1 hy with rfl | hy
    · exact hr
    · exact h.ok y hy
  · rcases List.mem_append.1 hy with hy | hy
    · exact h.sk y (List.mem_append.2 (.inl hy)) ha
    · exact .step hr hy ha
  · rcases List.mem_cons.1 hz with rfl | hz
    · exact .inr (List.mem_append.2 (.inr hy))
    · exact k y (h.cl z hz y hy ha)
theorem InvD.done {p : Pg} {fr F : List ByteArray} (h : InvD (ordF p) p.defs fr F []) : (ordF p).filter (has F) = rchF p fr := by
  have key : ∀ x, Rch (ordF p) p.defs fr x → x ∈ F := fun x hx => by
    induction hx with
    | base h1 h2 => exact (h.st _ h1 h2).elim id fun e => absurd e (by simp)
    | step _ hy hk ih => exact (h.cl _ ih _ hy hk).elim id fun e => absurd e (by simp)
  unfold rchF
  refine List.filter_congr fun x _ => ?_
  rw [Bool.eq_iff_iff, has_iff, cdec_iff]
  exact ⟨fun hx => h.ok x hx, key x⟩
/-- The known names that are not found yet. -/
def unf (all F : List ByteArray) : Nat := (all.filter fun x => !has F x).length
theorem filter_lt {α : Type} {f g : α → Bool} : ∀ {l : List α} {x : α}, (∀ y ∈ l, g y = true → f y = true) → x ∈ l → f x = true → g x = false → (l.filter g).length < (l.filter f).length
  | [], x, _, hx, _, _ => absurd hx (by simp)
  | y :: r, x, hi, hx, h1, h2 => by
    have hle : (r.filter g).length ≤ (r.filter f).length := by
      rw [← List.countP_eq_length_filter, ← List.countP_eq_length_filter]
      exact List.countP_mono_left fun z hz => hi z (List.mem_cons_of_mem _ hz)
    by_cases e : x = y
    · subst e
      rw [List.filter_cons_of_pos h1, List.filter_cons_of_neg (by rw [h2]; decide), List.length_cons]
      omega
    · have hx' : x ∈ r := (List.mem_cons.1 hx).elim (fun h => absurd h e) id
      have ih := filter_lt (l := r) (fun z hz => hi z (List.mem_cons_of_mem _ hz)) hx' h1 h2
      cases hg : g y
      · rw [List.filter_cons_of_neg (by rw [hg]; decide)]
        cases hf : f y
        · rw [List.filter_cons_of_neg (by rw [hf]; decide)]; exact ih
        · rw [List.filter_cons_of_pos hf, List.length_cons]; omega
      · rw [List.filter_cons_of_pos hg, List.filter_cons_of_pos (hi y List.mem_cons_self hg), List.length_cons, List.length_cons]
        omega
theorem unf_lt {all F : List ByteArray} {x : ByteArray} (hx : x ∈ all) (hF : has F x = false) : unf all (x :: F) < unf all F := by
  unfold unf
  refine filter_lt (x := x) (fun y _ h => ?_) hx (by rw [hF]; rfl) (by rw [has_cons]; simp)
  rw [has_cons] at h
  simp only [Bool.not_eq_true', Bool.or_eq_false_iff] at h
  rw [h.2]; rfl
theorem unf_le (all F : List ByteArray) : unf all F ≤ all.length := List.length_filter_le _ _
theorem reads_len (e : Ex) : (readsF e).length ≤ tot e := by
  have h1 := foldl_wth_len ((nodes e).flatMap nm1) []
  have h2 := names_len e
  rw [List.length_nil] at h1
  show (((nodes e).flatMap nm1).foldl wth []).length ≤ _
  omega
theorem inF_len : ∀ (D : List Df) (s : ByteArray), (∀ d ∈ D, tot d.body ≤ 1500) → (inF D s).length ≤ 1500
  | [], s, _ => Nat.zero_le _
  | d :: r, s, h => by
    rw [inF]
    split
    · exact Nat.le_trans (reads_len _) (h d List.mem_cons_self)
    · exact inF_len r s fun x hx => h x (List.mem_cons_of_mem _ hx)
theorem filterN_take {L : List ByteArray} {f : ByteArray → Bool} {i n : Nat} (hn : L.length = n) (hi : i < n) : (L.take (i + 1)).filter f = if f (L[i]'(by omega)) = true then (L.take i).filter f ++ [L[i]'(by omega)] else (L.take i).filter f := by
  subst hn
  rw [List.take_succ_eq_append_getElem hi, List.filter_append]
  split
  · rename_i h; rw [List.filter_cons_of_pos h]; rfl
  · rename_i h; rw [List.filter_cons_of_neg h]; simp
theorem OwnL.cut {α : Type} {k : Nat} {R : Rel α} {base : Nat} {e : TypeId} {w : World} {va : Option Addr} {n c : Nat} {l : List α} (h : OwnL k R base e w (.slice va n c) l) (hn : l.length = n) {m : Nat} (hm : m ≤ n) : OwnL k R base e w (.slice va m c) (l.take m) := by
  obtain ⟨F, h1, h2⟩ := h
  have hl : (l.take m).length = m := by rw [List.length_take]; omega
  refine ⟨F, ⟨by rw [flat_length], ?_⟩, fun i hi => ?_⟩
  · rw [hl]
    rcases h1.2 with ⟨e1, e2⟩ | ⟨g, cap, cur, e1, hb, hh, hc, hcm, hs, ht⟩
    · cases e1
      exact .inl ⟨by rw [show m = 0 by omega], by omega⟩
    · cases e1
      refine .inr ⟨g, c, cur, rfl, hb, hh, by omega, hcm, hs, ?_⟩
      have e : flat F m k = (flat F l.length k).take (m * k) := by
        unfold flat
        rw [← List.map_take, List.take_range]
        have : m * k ≤ l.length * k := Nat.mul_le_mul_right k (by omega)
        rw [Nat.min_eq_left this]
      rw [e, ← ht, List.take_take]
      have : m * k ≤ l.length * k := Nat.mul_le_mul_right k (by omega)
      rw [Nat.min_eq_left this]
  · rw [List.getElem_take]
    exact h2 i (by omega)

set_option maxHeartbeats 16000000 in
theorem p_Reachable (N : Nat) (p : Pg) (v nv : Value) (names : List ByteArray) (w : World) (hv : ProgAt N w v p) (hnv : LsAt 1 16 strR w nv names) (hnl : names.length ≤ 40) (hb : ∀ d ∈ p.defs, tot d.body ≤ 1500) (hsm : p.pars.length ≤ 40 ∧ p.defs.length ≤ 40) :
    Calls Tryz.prog 17 #[v, nv] w fun e w' => ∃ u, e = .returned u ∧ Up w w' ∧ NewS w w' u (rchF p names) := by
  obtain ⟨na, nc, rfl, _⟩ := hnv.shape
  obtain ⟨nn, hnn⟩ : ∃ q, names.length = q := ⟨_, rfl⟩
  rw [hnn] at hnv hnl ⊢
  have hnI : (nn : Int) ≤ 40 := by omega
  have HNV := Lib.hid hnv
  have HNN := Lib.hid hnn
  obtain ⟨all, hall⟩ : ∃ all, ordF p = all := ⟨_, rfl⟩
  obtain ⟨an, han⟩ : ∃ q, all.length = q := ⟨_, rfl⟩
  have HAN := Lib.hid han
  have hanb : an ≤ 80 := by have := ordF_len p; rw [hall, han] at this; omega
  have hanI : (an : Int) ≤ 80 := by omega
  have HDN := Lib.hid (fun F (h : InvD all p.defs names F []) => InvD.done (p := p) (fr := names) (F := F) (by rw [hall]; exact h))
  rw [hall] at HDN
  obtain ⟨RF, hRF⟩ : ∃ q, rchF p names = q := ⟨_, rfl⟩
  rw [hRF] at HDN ⊢
  have HORD := Lib.hid (fun y (hy : Up w y) => Calls.strs (n := an) (p_names N p _ y (hv.up hy) hsm) (by rw [hall]; exact han))
  rw [hall] at HORD
  have HIN := Lib.hid (fun s y (hy : Up w y) => p_Inputs N p _ s y (hv.up hy) hb)
  have HIL := Lib.hid (fun s => inF_len p.defs s hb)
  obtain ⟨D, hD⟩ : ∃ D, p.defs = D := ⟨_, rfl⟩
  rw [hD] at HDN HIN HIL
  obtain ⟨v0, v1, v2, v3, v4, rfl, _⟩ := id hv
  clear hv hb hsm hnv hnn hall han hRF hD
  have HU0 : Hid (Up w ((w.alloc (.cells #[v0, v1, v2, v3, v4] 27)).alloc (.map #[] 0))) := Lib.hid (((Up.refl w).alloc _).alloc _)
  have HB0 := Lib.hid ((BoxC.new w 27 #[v0, v1, v2, v3, v4]).up ((Up.refl _).alloc (.map #[] 0)))
  have HS0 : Hid (SetAt ((w.alloc (.cells #[v0, v1, v2, v3, v4] 27)).alloc (.map #[] 0)) (w.heap.size + 1) 0 []) := Lib.hid (by have h := SetAt.made (w.alloc (.cells #[v0, v1, v2, v3, v4] 27)); rw [World.size_alloc] at h; exact h)
  have HLP := Lib.hid (run_cs (P := Tryz.prog) Tryz.underlying27 rfl prog_info (cs := #[v0, v1, v2, v3, v4]) rfl HB0.out.range)
  have hmm := @run_makeMap Tryz.prog
  go_enter Tryz.func17, Tryz.ntmps17
  go_wp2_with (first
    | (refine st_load HLP.out (by rfl) ?_)
    | (go_at_call 34; (with_reducible refine (HORD.out _ HU0.out).mono ?_); rintro e' W1 ⟨aa, ac, rfl, hy, hu⟩; have HW1 := Lib.hid (HU0.out.trans hy); have HB1 := Lib.hid (HB0.out.up hy); have HS1 := Lib.hid (HS0.out.up hy); have HA1 := Lib.hid hu.1; have HNA : Hid (NewFrom (w.heap.size + 2) (.slice aa an ac)) := Lib.hid (hu.2.mono (by simp only [World.size_alloc]; omega)); clear hy hu))
  go_loopw [20] (fun iv wr => ∃ i : Nat, iv = .int .i64 i ∧ i ≤ an ∧ Up w wr ∧ SetAt wr (w.heap.size + 1) i (all.take i) ∧ LsAt 1 16 strR wr (.slice aa an ac) all ∧ BoxC wr w.heap.size 27 #[v0, v1, v2, v3, v4]) (fun iv _ => an - (intOf iv).toNat)
  case atStart => exact ⟨0, rfl, Nat.zero_le _, HW1.out, HS1.out, HA1.out, HB1.out⟩
  case round =>
    rename World => wr
    obtain ⟨i, rfl, hi, hup, hst, hal, hbx⟩ := hrel
    have HU := Lib.hid hup
    have HS := Lib.hid hst
    have HA := Lib.hid hal
    have HB := Lib.hid hbx
    clear hup hst hal hbx HS0 HB0 HU0 HLP HS1 HB1 HA1 HW1
    by_cases hlt : i < an
    · have hltI : (i : Int) < an := by omega
      have hi1 : i < all.length := by rw [HAN.out]; exact hlt
      obtain ⟨g, o, rfl, hg, hsz, hc⟩ := HA.out.txt i hi1
      have hc1 := hc wr (Up.refl _)
      obtain ⟨x, hx⟩ : ∃ x, all[i] = x := ⟨_, rfl⟩
      have HT : Hid (all.take (i + 1) = all.take i ++ [x]) := Lib.hid (by rw [List.take_succ_eq_append_getElem hi1, hx])
      rw [hx] at hsz hc1
      have HSZ := Lib.hid hsz
      clear hx hsz hc hi1
      have hgb : w.heap.size + 2 ≤ g := HNA.out _ _ _ rfl
      go_wp2_with (refine st_put HS.out HSZ.out (by unfold maxLen; omega) (by rfl) (by rfl) (by rfl) ?_; intro w1 h1 h2; have HS2 := Lib.hid h1; have HG2 := Lib.hid h2; clear h1 h2)
      go_roundw
      case rel =>
        refine ⟨i + 1, by go_num, by omega, HU.out.grown' HG2.out (fun k e => by cases e; omega), HS2.out.congr fun s => by rw [HT.out]; simp [or_comm], HA.out.str_kept HG2.out (fun a n c e e2 => ?_), HB.out.kept HG2.out (fun e => by have := Option.some.inj e; omega)⟩
        have h1 := HNA.out a n c e
        have h2 := Option.some.inj e2
        omega
      case measure => simp [intOf]; omega
    · obtain rfl : an = i := by omega
      rename World => W2
      have HTK : Hid (all.take an = all) := Lib.hid (List.take_of_length_le (by rw [HAN.out]; exact Nat.le_refl _))
      rw [HTK.out] at HS
      have HF0 : Hid (SetAt (W2.alloc (.map #[] 0)) W2.heap.size 0 []) := Lib.hid (SetAt.made W2)
      have hbs := HB.out.lt
      have HNU : Hid (LsAt 1 16 (fun _ => strQ) (W2.alloc (.map #[] 0)) (.slice na nn nc) names) := Lib.hid (HNV.out.up strR_up (HU.out.alloc _))
      go_wp2_with (at_builtin; refine st_app (l := []) (n := 0) (mm := nn) (base := W2.heap.size + 1) rowT_str strQ_one rfl HNN.out (H := OwnL.nil) (S := HNU.out) (by omega) (by decide) (by simp only [World.size_alloc]; omega) (by rfl) (by rfl) ?_; intro ua uc w2 h1 h2 h3; simp only [Nat.zero_add, List.nil_append] at h1 h3 ⊢; have HR0 := Lib.hid h1; have HG0 := Lib.hid h2; clear h1 h2 h3)
      go_loopg [10] (an * 1501 + nn) (fun (k : Nat) (wv : Value) (y : World) => ∃ (F S : List ByteArray) (nf : Nat), Up W2 y ∧ SetAt y W2.heap.size nf F ∧ nf ≤ an * 1501 + nn - k ∧ k ≤ an * 1501 + nn ∧ OwnS (W2.heap.size + 1) y wv S ∧ InvD all D names F S ∧ unf all F * 1501 + S.length ≤ k)
      case atStart =>
        refine ⟨[], names, 0, ((Up.refl _).alloc _).grown' HG0.out (fun k e => by cases e), HF0.out.kept HG0.out (by simp [Value.ownBlock]), Nat.zero_le _, Nat.le_refl _, HR0.out, InvD.start _ _ _, ?_⟩
        have h1 := unf_le all []
        rw [HAN.out] at h1
        rw [HNN.out]
        have := Nat.mul_le_mul_right 1501 h1
        omega
      case round =>
        rename World => y
        obtain ⟨F, S, nf, hup, hfs, hnf, hkb, hrow, hinv, hms⟩ := hrel
        obtain ⟨va, vc, rfl⟩ := hrow.shape
        obtain ⟨m, hm⟩ : ∃ m, S.length = m := ⟨_, rfl⟩
        have HM := Lib.hid hm
        have HINV := Lib.hid hinv
        have HMS := Lib.hid hms
        have HKB := Lib.hid (show S.length ≤ 80 * 1501 + 40 by have := Nat.mul_le_mul_right 1501 hanb; omega)
        have HNF := Lib.hid (show nf ≤ 80 * 1501 + 40 by have := Nat.mul_le_mul_right 1501 hanb; omega)
        have HNF1 := Lib.hid hnf
        have HKN := Lib.hid hkb
        have HUY := Lib.hid hup
        have HF := Lib.hid hfs
        have HLS : Hid (LsAt 1 16 strR y (.slice va S.length vc) S) := Lib.hid (OwnL.ls hrow (by decide) (by have := HKB.out; omega))
        rw [hm] at HKB HLS hrow ⊢
        have hmI : (m : Int) ≤ 120120 := by have := HKB.out; omega
        have HR := Lib.hid hrow
        clear hup hfs hnf hkb hrow hinv hms hm
        rcases Nat.eq_zero_or_pos m with h0 | hpos
        · have HDF : Hid (all.filter (has F) = RF) := Lib.hid (HDN.out F (by have h := HINV.out; rw [List.length_eq_zero_iff.1 (HM.out.trans h0)] at h; exact h))
          subst h0
          have HWY := Lib.hid (HU.out.trans HUY.out)
          have HAY := Lib.hid (HA.out.up strR_up HUY.out)
          clear HLS HR HINV HMS HM HKB HNF HNF1 HKN
          go_wp2
          go_loopw [12, 62] (fun ov iv wr => ∃ i : Nat, iv = .int .i64 i ∧ i ≤ an ∧ Up y wr ∧ OwnS y.heap.size wr ov ((all.take i).filter (has F))) (fun _ iv _ => an - (intOf iv).toNat)
          case atStart => exact ⟨0, rfl, Nat.zero_le _, Up.refl _, OwnL.nil⟩
          case round =>
            rename World => wr
            obtain ⟨i, rfl, hi, hup, hrow⟩ := hrel
            have HUR := Lib.hid hup
            obtain ⟨U, hU⟩ : ∃ U, (all.take i).filter (has F) = U := ⟨_, rfl⟩
            have HUE := Lib.hid hU
            have HLN : Hid (U.length ≤ 80) := Lib.hid (by rw [← hU]; refine Nat.le_trans (List.length_filter_le _ _) ?_; rw [List.length_take]; omega)
            rw [hU] at hrow
            obtain ⟨va, vc, rfl⟩ := hrow.shape
            have HR := Lib.hid hrow
            obtain ⟨m, hm⟩ : ∃ m, U.length = m := ⟨_, rfl⟩
            rw [hm] at HR HLN ⊢
            have HM := Lib.hid hm
            clear hup hrow hU hm
            by_cases hlt : i < an
            · have hltI : (i : Int) < an := by omega
              have hi1 : i < all.length := by rw [HAN.out]; exact hlt
              obtain ⟨g, o, rfl, hg, hsz, hc⟩ := HAY.out.txt i hi1
              have hg' := Nat.lt_of_lt_of_le hg HUR.out.size
              have hc1 := hc wr HUR.out
              have HT := Lib.hid (filterN_take (f := has F) HAN.out hlt)
              rw [HUE.out] at HT
              obtain ⟨x, hx⟩ : ∃ x, all[i] = x := ⟨_, rfl⟩
              rw [hx] at hsz hc1
              have HT : Hid ((all.take (i + 1)).filter (has F) = if has F x = true then U ++ [x] else U) := Lib.hid (by rw [← hx]; exact HT.out)
              have HSZ := Lib.hid hsz
              have HFR := Lib.hid (HF.out.up HUR.out)
              obtain ⟨b, hb⟩ : ∃ b, has F x = b := ⟨_, rfl⟩
              have HBB := Lib.hid hb
              clear hx hsz hc hi1 hb hg
              cases b
              · have HA1 : Hid ((all.take (i + 1)).filter (has F) = U) := Lib.hid (by rw [HT.out, HBB.out]; rfl)
                go_wp2_with (refine st_look HFR.out HSZ.out (by rfl) (by rfl) ?_; rw [HBB.out])
                go_roundw
                case rel => exact ⟨i + 1, by go_num, by omega, HUR.out, by rw [HA1.out]; exact HR.out⟩
                case measure => simp [intOf]; omega
              · have HA1 : Hid ((all.take (i + 1)).filter (has F) = U ++ [x]) := Lib.hid (by rw [HT.out, HBB.out, if_pos rfl])
                go_wp2_with (first
                  | (refine st_look HFR.out HSZ.out (by rfl) (by rfl) ?_; rw [HBB.out])
                  | (at_builtin; refine st_app (mm := 1) rowT_str strQ_one HM.out (by rfl) (H := OwnL.up (fun _ _ _ _ h _ => h) HR.out ((Up.refl _).alloc _)) (S := LsAt.one_str _ HSZ.out) (by have := HLN.out; omega) (by decide) (by have := HUR.out.size; simp only [World.size_alloc]; omega) (by rfl) (by rfl) ?_; intro xa xc w3 h1 h2 h3; have HR2 := Lib.hid h1; have HG2 := Lib.hid h2; clear h1 h2 h3))
                go_roundw
                case rel =>
                  refine ⟨i + 1, by go_num, by omega, (HUR.out.alloc _).grown' HG2.out (fun k e => by have := HR.out.base k e; omega), ?_⟩
                  rw [HA1.out]; exact HR2.out
                case measure => simp [intOf]; omega
            · obtain rfl : an = i := by omega
              have HTK : Hid (all.take an = all) := Lib.hid (List.take_of_length_le (by rw [HAN.out]; exact Nat.le_refl _))
              rw [HTK.out, HDF.out] at HUE
              go_wp2
              go_ret
              refine ⟨_, rfl, HWY.out.trans HUR.out, ?_⟩
              rw [HUE.out]
              exact OwnS.new HR.out HWY.out.size (by have := HLN.out; have := HM.out; omega)
        · obtain ⟨k, rfl⟩ : ∃ k, m = k + 1 := ⟨m - 1, by omega⟩
          obtain ⟨x, T, hST⟩ : ∃ x T, S = T ++ [x] := (List.eq_nil_or_concat S).elim (fun e => by have := HM.out; rw [e] at this; cases this) (fun ⟨T, x, e⟩ => ⟨x, T, by rw [e]; first | rfl | exact List.concat_eq_append⟩)
          have hTk : T.length = k := by have := HM.out; rw [hST, List.length_append] at this; simpa using this
          have HT1 := Lib.hid hTk
          obtain ⟨g, o, rfl, hg, hsz, hc⟩ := HLS.out.txt k (by rw [HM.out]; omega)
          have hxk : S[k]'(by rw [HM.out]; omega) = x := by simp only [hST]; rw [List.getElem_append_right (by omega)]; simp [hTk]
          rw [hxk] at hsz hc
          have hc1 := hc y (Up.refl _)
          have HSZ := Lib.hid hsz
          have HR1 : Hid (OwnS (W2.heap.size + 1) y (.slice (some ⟨g, o, none⟩) k vc) T) := Lib.hid (by have h := OwnL.cut HR.out HM.out (m := k) (by omega); rw [hST, List.take_append_of_le_length (by omega), List.take_of_length_le (by omega)] at h; exact h)
          have HINV1 : Hid (InvD all D names F (T ++ [x])) := Lib.hid (by rw [← hST]; exact HINV.out)
          have HK1 := Lib.hid (HS.out.up HUY.out)
          have hk1 := HK1.out.look hsz
          have hk2 := HF.out.look hsz
          have hvc : k ≤ vc := by have := OwnL.cap HR.out; omega
          have hvI : (k : Int) ≤ vc := by omega
          have hkI : (k : Int) ≤ 120120 := by omega
          clear hsz hc hxk hTk hST
          obtain ⟨b1, hb1⟩ : ∃ b, has all x = b := ⟨_, rfl⟩
          obtain ⟨b2, hb2⟩ : ∃ b, has F x = b := ⟨_, rfl⟩
          have HB1 := Lib.hid hb1
          have HB2 := Lib.hid hb2
          rw [hb1] at hk1
          rw [hb2] at hk2
          clear hb1 hb2
          have HMS1 : Hid (1 ≤ gk) := Lib.hid (by have h := HMS.out; rw [HM.out] at h; omega)
          cases b1
          · go_wp2
            go_roundg (gk - 1)
            case measure => have := HMS1.out; omega
            case rel => exact ⟨F, T, nf, HUY.out, HF.out, by have := HNF1.out; have := HMS1.out; have := HKN.out; omega, by have := HKN.out; omega, HR1.out, HINV1.out.skip (fun h => by have := has_iff.2 h; rw [HB1.out] at this; cases this), by have h := HMS.out; rw [HT1.out]; rw [HM.out] at h; omega⟩
          · cases b2
            · obtain ⟨q, hq⟩ : ∃ q, (inF D x).length = q := ⟨_, rfl⟩
              have HQ := Lib.hid hq
              have HQB : Hid (q ≤ 1500) := Lib.hid (by rw [← hq]; exact HIL.out x)
              clear hq
              go_wp2_with (first
                | (refine st_put HF.out HSZ.out (by have := HNF.out; unfold maxLen; omega) (by rfl) (by rfl) (by rfl) ?_; intro w3 h1 h2; have HF3 := Lib.hid h1; have hup3 := HUY.out.grown' h2 (fun k e => by cases e; exact Nat.le_refl _); have HU3 := Lib.hid hup3; have HLP3 := Lib.hid (run_cs (P := Tryz.prog) Tryz.underlying27 rfl prog_info (cs := #[v0, v1, v2, v3, v4]) rfl (HB.out.up hup3).range); have HR3 := Lib.hid (own_keptL HR1.out h2 (fun g' hg' e => by have := HR1.out.base _ hg'; have := Option.some.inj e; omega)); have HCI := Lib.hid (Calls.strs (n := q) (HIN.out x w3 (HU.out.trans hup3)) HQ.out); clear h1 h2 hup3)
                | (refine st_load HLP3.out (by rfl) ?_)
                | (go_at_call 15; (with_reducible refine HCI.out.mono ?_); rintro e' y4 ⟨xa, xc, rfl, hy, hu⟩; have HU4 := Lib.hid (HU3.out.trans hy); have HF4 := Lib.hid (HF3.out.up hy); have HR4 := Lib.hid (OwnL.up (fun _ _ _ _ h _ => h) HR3.out hy); have HX4 : Hid (LsAt 1 16 (fun _ => strQ) y4 (.slice xa q xc) (inF D x)) := Lib.hid hu.1; clear hy hu)
                | (at_builtin; refine st_app rowT_str strQ_one HT1.out HQ.out (H := HR4.out) (S := HX4.out) (by have := HKB.out; have := HQB.out; omega) (by decide) (by have := HU4.out.size; have := HF4.out.lt; omega) (by rfl) (by rfl) ?_; intro za zc w5 h1 h2 h3; have HR5 := Lib.hid h1; have HU5 := Lib.hid (HU4.out.grown' h2 (fun k e => by have := HR4.out.base k e; omega)); have HF5 := Lib.hid (HF4.out.kept h2 (fun e => by have := HR4.out.base _ e.symm; omega)); clear h1 h2 h3))
              go_roundg (gk - 1)
              case measure => have := HMS1.out; omega
              case rel =>
                refine ⟨x :: F, T ++ inF D x, nf + 1, HU5.out, HF5.out, by have := HNF1.out; have := HMS1.out; have := HKN.out; omega, by have := HKN.out; omega, HR5.out, HINV1.out.push (has_iff.1 HB1.out), ?_⟩
                have h := HMS.out
                rw [HM.out] at h
                have h1 := unf_lt (has_iff.1 HB1.out) HB2.out
                have h2 := HQB.out
                rw [List.length_append, HT1.out, HQ.out]
                omega
            · go_wp2
              go_roundg (gk - 1)
              case measure => have := HMS1.out; omega
              case rel => exact ⟨F, T, nf, HUY.out, HF.out, by have := HNF1.out; have := HMS1.out; have := HKN.out; omega, by have := HKN.out; omega, HR1.out, HINV1.out.skip (fun _ => has_iff.1 HB2.out), by have h := HMS.out; rw [HT1.out]; rw [HM.out] at h; omega⟩
end Go.Proofs.YtpccaifhcmcegaaGreat
end

section
namespace Go.Proofs.YtpccaifhcmcegaaGreat
set_option linter.unusedSimpArgs false
open Go.ChangeShapes Go.WideShapes Go.ChangeAt Go.RowKit
set_option linter.unusedVariables false
set_option maxRecDepth 100000

theorem wpMd_rowT {P : Program} {ops : Array Oper} {md : Region.Mode} {w : World} {M : FuncId → Array Value → Value → World → Prop} {L : Act → Facts → Prop} (hL : AntiF w L) {k : Nat} {o : Oper} {rest : List Oper} {a : Act} {S : Facts} (cs : Array Value) (t : TypeId) (m : Nat)
    (hw : Region.wanted o (yielded ops a.tmps) = true) (hrun : ∀ x, (execOp a.eval o).run P x = .ok (.value (.slice (some ⟨x.heap.size, 0, none⟩) m m)) (x.alloc (.cells cs t (0, 0))))
    (h : ∀ b, w.heap.size ≤ b → ∀ S', More S S' → (∀ x, S' k x → x.heap[b]? = some (.cells cs t (0, 0))) → wpMd P md ops M w L (k + 1) rest (a.put o.dst (.slice (some ⟨b, 0, none⟩) m m)) S') : wpMd P md ops M w L k (o :: rest) a S := by
  refine wpMd_any hL (fun v y => ∃ b, v = .slice (some ⟨b, 0, none⟩) m m ∧ w.heap.size ≤ b ∧ y.heap[b]? = some (.cells cs t (0, 0))) (fun v x y ⟨b, h1, h2, h3⟩ hu => ⟨b, h1, h2, by rw [hu.heap b (Array.getElem?_eq_some_iff.1 h3).1]; exact h3⟩) hw
    (fun x hx _ => ⟨_, _, hrun x, (Up.refl x).alloc _, x.heap.size, rfl, hx.size, heap_alloc_new x _⟩) (fun v ⟨y, _, b, h1, h2, _⟩ => ?_)
  subst h1
  refine wpMd_more hL _ _ _ _ _ (More.upd (fun _ _ h => h) k (fun x ⟨⟨b', h4, h5, h6⟩, _⟩ => ?_)) (h b h2 _ (more_upd _ _ _) fun _ hx => upd_new hx)
  cases h4
  exact h6
/-- A row of one text, known by its block. -/
theorem LsAt.blk1 {x : World} {b : Nat} {s : ByteArray} (hs : s.size ≤ maxLen) (h : x.heap[b]? = some (.cells #[.string s] 9 (0, 0))) : LsAt 1 16 strR x (.slice (some ⟨b, 0, none⟩) 1 1) [s] := by
  refine ⟨⟨_, 1, rfl, Nat.le_refl _⟩, by simp, fun _ _ => .string s, ⟨⟨_, _, rfl, (fun h => nomatch h), fun y hy _ => ?_⟩, by simp⟩, fun i hi => ?_⟩
  · cases hy
    refine ⟨rfl, (Array.getElem?_eq_some_iff.1 h).1, fun i j hi hj => ?_⟩
    obtain rfl : i = 0 := by simpa using hi
    obtain rfl : j = 0 := by omega
    rw [cell_of_row _ _ _ _ _ _ h]; rfl
  · obtain rfl : i = 0 := by simpa using hi
    exact ⟨rfl, hs⟩
/-- The names between two names. -/
noncomputable def btwF (p : Pg) (fr to : ByteArray) : List ByteArray := (rchF p [to]).filter fun x => has (rchF p [x]) fr

end Go.Proofs.YtpccaifhcmcegaaGreat
end

section
namespace Go.Proofs.YtpccaifhcmcegaaGreat
set_option linter.unusedSimpArgs false
open Go.ChangeShapes Go.WideShapes Go.ChangeAt Go.RowKit
set_option linter.unusedVariables false
set_option maxRecDepth 100000

theorem addU_nd {l : List ByteArray} {s : ByteArray} (h : l.Nodup) : (addU l s).Nodup := by
  unfold addU; split
  · exact h
  · rename_i hh
    refine List.nodup_append.2 ⟨h, by simp, fun a ha b hb e => ?_⟩
    rw [List.mem_singleton] at hb
    subst hb; subst e
    exact hh (has_iff.2 ha)
theorem foldU_nd : ∀ (m l : List ByteArray), l.Nodup → (m.foldl addU l).Nodup
  | [], l, h => h
  | s :: r, l, h => foldU_nd r _ (addU_nd h)
theorem ordF_nd (p : Pg) : (ordF p).Nodup := foldU_nd _ _ (foldU_nd _ _ List.nodup_nil)
theorem rchF_nd (p : Pg) (fr : List ByteArray) : (rchF p fr).Nodup := (ordF_nd p).filter _
/-- What a round of Between lays behind. -/
def oneF (b : Bool) (x : ByteArray) : List ByteArray := if b = true then [x] else []
theorem has_take {R : List ByteArray} {s : ByteArray} {j n : Nat} (hn : R.length = n) (hj : j < n) : has (R.take (j + 1)) s = (has (R.take j) s || decide (R[j]'(by omega) = s)) := by
  subst hn
  unfold has
  rw [List.take_succ_eq_append_getElem hj, List.any_append]
  simp
theorem nd_take {R : List ByteArray} (h : R.Nodup) {j n : Nat} (hn : R.length = n) (hj : j < n) : has (R.take j) (R[j]'(by omega)) = false := by
  subst hn
  rw [← Bool.not_eq_true, has_iff]
  intro hm
  obtain ⟨i, hi, e⟩ := List.mem_iff_getElem.1 hm
  rw [List.length_take] at hi
  rw [List.getElem_take] at e
  exact List.pairwise_iff_getElem.1 h i j (by omega) hj (by omega) e

set_option maxHeartbeats 16000000 in
theorem p_Between (N : Nat) (p : Pg) (v : Value) (fr t : ByteArray) (w : World) (hv : ProgAt N w v p) (ht : t.size ≤ maxLen) (hb : ∀ d ∈ p.defs, tot d.body ≤ 1500) (hsm : p.pars.length ≤ 40 ∧ p.defs.length ≤ 40) :
    Calls Tryz.prog 19 #[v, .string fr, .string t] w fun e w' => ∃ u, e = .returned u ∧ Up w w' ∧ NewS w w' u (btwF p fr t) := by
  obtain ⟨all, hall⟩ : ∃ all, rchF p [t] = all := ⟨_, rfl⟩
  obtain ⟨an, han⟩ : ∃ q, all.length = q := ⟨_, rfl⟩
  have HAN := Lib.hid han
  have hanb : an ≤ 80 := by have := rchF_len p [t]; rw [hall, han] at this; omega
  have hanI : (an : Int) ≤ 80 := by omega
  have HRF : Hid (btwF p fr t = all.filter fun x => has (rchF p [x]) fr) := Lib.hid (by unfold btwF; rw [hall])
  obtain ⟨RF, hRF⟩ : ∃ q, btwF p fr t = q := ⟨_, rfl⟩
  obtain ⟨G, hG⟩ : ∃ G : ByteArray → Bool, (fun x => has (rchF p [x]) fr) = G := ⟨_, rfl⟩
  rw [hRF, hG] at HRF
  rw [hRF]
  have HGE : Hid (∀ x, has (rchF p [x]) fr = G x) := Lib.hid fun x => congrFun hG x
  have HRC := Lib.hid (fun s nv y (hy : Up w y) (hn : LsAt 1 16 strR y nv [s]) => p_Reachable N p _ nv [s] y (hv.up hy) hn (by simp) hb hsm)
  have HC0 := Lib.hid (fun nv y (hy : Up w y) (hn : LsAt 1 16 strR y nv [t]) => Calls.strs (n := an) (HRC.out t nv y hy hn) (by rw [hall]; exact han))
  have HRN := Lib.hid (fun s => (⟨rchF_nd p [s], by have := rchF_len p [s]; omega⟩ : (rchF p [s]).Nodup ∧ (rchF p [s]).length ≤ 80))
  rw [hall] at HC0
  have HTZ := Lib.hid ht
  obtain ⟨v0, v1, v2, v3, v4, rfl, _⟩ := id hv
  clear hv hb hsm hall han hRF hG ht
  have HU0 : Hid (Up w (w.alloc (.cells #[v0, v1, v2, v3, v4] 27))) := Lib.hid ((Up.refl w).alloc _)
  have HB0 := Lib.hid (BoxC.new w 27 #[v0, v1, v2, v3, v4])
  have HLP := Lib.hid (run_cs (P := Tryz.prog) Tryz.underlying27 rfl prog_info (cs := #[v0, v1, v2, v3, v4]) rfl HB0.out.range)
  have HU01 := Lib.hid (HU0.out.alloc (.cells #[.string t] 9))
  have HL0 := Lib.hid (LsAt.one_str (w.alloc (.cells #[v0, v1, v2, v3, v4] 27)) HTZ.out).ofS
  rw [World.size_alloc] at HL0
  go_enter Tryz.func19, Tryz.ntmps19
  go_wp2_with (first
    | (refine st_load HLP.out (by rfl) ?_)
    | (go_at_call 17; (with_reducible refine (HC0.out _ _ HU01.out HL0.out).mono ?_); rintro e' W1 ⟨aa, ac, rfl, hy, hu⟩; have HW1 := Lib.hid (HU01.out.trans hy); have HB1 := Lib.hid ((HB0.out.up ((Up.refl _).alloc _)).up hy); have HA1 := Lib.hid hu.1; clear hy hu))
  clear HC0 HL0 HLP
  go_loopw [7, 17] (fun ov iv wr => ∃ i : Nat, iv = .int .i64 i ∧ i ≤ an ∧ Up W1 wr ∧ OwnS W1.heap.size wr ov ((all.take i).filter G)) (fun _ iv _ => an - (intOf iv).toNat)
  case atStart => exact ⟨0, rfl, Nat.zero_le _, Up.refl _, OwnL.nil⟩
  case round =>
    rename World => wr
    obtain ⟨i, rfl, hi, hup, hrow⟩ := hrel
    have HU1 := Lib.hid hup
    have HW := Lib.hid (HW1.out.trans hup)
    have HA := Lib.hid (HA1.out.up strR_up hup)
    obtain ⟨U, hU⟩ : ∃ U, (all.take i).filter G = U := ⟨_, rfl⟩
    have HUE := Lib.hid hU
    have HLN : Hid (U.length ≤ 80) := Lib.hid (by rw [← hU]; exact Nat.le_trans (List.length_filter_le _ _) (by rw [List.length_take, HAN.out]; omega))
    rw [hU] at hrow
    obtain ⟨va, vc, rfl⟩ := hrow.shape
    have HR := Lib.hid hrow
    obtain ⟨m, hm⟩ : ∃ m, U.length = m := ⟨_, rfl⟩
    rw [hm] at HR HLN ⊢
    have HM := Lib.hid hm
    clear hup hrow hU hm
    by_cases hlt : i < an
    · have hltI : (i : Int) < an := by omega
      have hi1 : i < all.length := by rw [HAN.out]; exact hlt
      obtain ⟨g, o, rfl, hg, hsz, hc⟩ := HA.out.txt i hi1
      have HT := Lib.hid (filter_take (f := G) HAN.out hlt)
      rw [HUE.out] at HT
      have hc1 := hc wr (Up.refl _)
      obtain ⟨x, hx⟩ : ∃ x, all[i]'hi1 = x := ⟨_, rfl⟩
      have HT : Hid ((all.take (i + 1)).filter G = if G x = true then U ++ [x] else U) := Lib.hid (by rw [← hx]; exact HT.out)
      rw [hx] at hsz hc1
      have HSZ := Lib.hid hsz
      clear hx hsz hc hi1
      obtain ⟨R, hR⟩ : ∃ R, rchF p [x] = R := ⟨_, rfl⟩
      have HGX : Hid (has R fr = G x) := Lib.hid (by rw [← hR, HGE.out])
      have HRX := Lib.hid (HRN.out x)
      rw [hR] at HRX
      obtain ⟨rn, hrn⟩ : ∃ q, R.length = q := ⟨_, rfl⟩
      have HRL := Lib.hid hrn
      have hrb : rn ≤ 80 := by rw [← hrn]; exact HRX.out.2
      have hrI : (rn : Int) ≤ 80 := by omega
      have HB := Lib.hid (HB1.out.up HU1.out)
      have HLP2 := Lib.hid (run_cs (P := Tryz.prog) Tryz.underlying27 rfl prog_info (cs := #[v0, v1, v2, v3, v4]) rfl HB.out.range)
      have HCX := Lib.hid (Calls.strs (n := rn) (HRC.out x _ _ (HW.out.alloc (.cells #[.string x] 9)) (LsAt.one_str wr HSZ.out).ofS) (by rw [hR]; exact hrn))
      rw [hR] at HCX
      clear hR hrn hg
      go_wp2_with (first
        | (refine st_load HLP2.out (by rfl) ?_)
        | (go_at_call 17; (with_reducible refine HCX.out.mono ?_); rintro e' W2 ⟨ra, rc, rfl, hy, hu⟩; have hu2 := ((Up.refl wr).alloc _).trans hy; have HW2 := Lib.hid hu2; have HLR := Lib.hid hu.1; have HLN2 := Lib.hid hu.2; have HR2L := Lib.hid HR.out.lt0; have HR2 := Lib.hid (OwnL.up (fun _ _ _ _ h _ => h) HR.out hu2); have HU2 := Lib.hid (HU1.out.trans hu2); clear hy hu hu2))
      clear HCX HLP2 HR
      go_loopw [7, 26] (fun ov jv y => ∃ j : Nat, jv = .int .i64 j ∧ j ≤ rn ∧ Up W1 y ∧ W2.heap.size ≤ y.heap.size ∧ LsAt 1 16 strR y (.slice ra rn rc) R ∧ (∀ g a, ov.ownBlock = some g → ra = some a → a.block ≠ g) ∧ OwnS W1.heap.size y ov (U ++ oneF (has (R.take j) fr) x)) (fun _ jv _ => rn - (intOf jv).toNat)
      case atStart => exact ⟨0, rfl, Nat.zero_le _, HU2.out, Nat.le_refl _, HLR.out, (fun g a e1 e2 => by have h1 := HR2L.out g e1; have h2 := HLN2.out a _ _ (by rw [e2]); simp only [World.size_alloc] at h2; omega), by rw [List.take_zero]; show OwnS _ _ _ (U ++ []); rw [List.append_nil]; exact HR2.out⟩
      case round =>
        rename World => y
        obtain ⟨j, rfl, hj, hup1, hup2, hlr, hsp, hrow⟩ := hrel
        have HLY := Lib.hid hlr
        have HSP := Lib.hid hsp
        have HY1 := Lib.hid hup1
        have HY2 := Lib.hid hup2
        obtain ⟨bj, hbj⟩ : ∃ b, has (R.take j) fr = b := ⟨_, rfl⟩
        have HBJ := Lib.hid hbj
        rw [hbj] at hrow
        obtain ⟨V, hV⟩ : ∃ V, U ++ oneF bj x = V := ⟨_, rfl⟩
        have HV := Lib.hid hV
        have HVL : Hid (V.length ≤ 81) := Lib.hid (by
          rw [← hV, List.length_append]
          have h1 := HLN.out
          have h2 := HM.out
          have h3 : (oneF bj x).length ≤ 1 := by unfold oneF; split <;> simp
          omega)
        rw [hV] at hrow
        obtain ⟨va, vc, rfl⟩ := hrow.shape
        obtain ⟨mv, hmv⟩ : ∃ q, V.length = q := ⟨_, rfl⟩
        rw [hmv] at hrow HVL HSP ⊢
        have HMV := Lib.hid hmv
        have HRV := Lib.hid hrow
        clear hup1 hup2 hrow hV hmv hbj hlr hsp
        by_cases hltj : j < rn
        · have hltJ : (j : Int) < rn := by omega
          obtain ⟨g2, o2, rfl, hg2, hsz2, hc2⟩ := HLY.out.txt j (by rw [HRL.out]; exact hltj)
          have hcy := hc2 y (Up.refl _)
          have hgy := hg2
          have HGY := Lib.hid hg2
          have HHT := Lib.hid (has_take (s := fr) HRL.out hltj)
          have HND := Lib.hid (nd_take HRX.out.1 HRL.out hltj)
          obtain ⟨z, hz⟩ : ∃ z, R[j]'(by rw [HRL.out]; exact hltj) = z := ⟨_, rfl⟩
          rw [hz] at hcy
          have HHT : Hid (has (R.take (j + 1)) fr = (bj || decide (z = fr))) := Lib.hid (by rw [← hz, HHT.out, HBJ.out])
          have HND : Hid (has (R.take j) z = false) := Lib.hid (by rw [← hz]; exact HND.out)
          have q := tl_eq z fr
          clear hz hsz2 hc2 hg2
          by_cases e : z = fr
          · rw [decide_eq_true e] at q
            have HBF : Hid (bj = false) := Lib.hid (by rw [← HBJ.out, ← e]; exact HND.out)
            have HV2 : Hid (U ++ oneF (has (R.take (j + 1)) fr) x = V ++ [x]) := Lib.hid (by
              have h := HV.out
              rw [HBF.out] at h
              rw [HHT.out, decide_eq_true e, Bool.or_true]
              rw [← h]
              show U ++ [x] = (U ++ []) ++ [x]
              rw [List.append_nil])
            clear e
            go_wp2_with (at_builtin; refine st_app (mm := 1) rowT_str strQ_one HMV.out (by rfl) (H := OwnL.up (fun _ _ _ _ h _ => h) HRV.out ((Up.refl _).alloc _)) (S := LsAt.one_str _ HSZ.out) (by have := HVL.out; omega) (by decide) (by have := HY1.out.size; simp only [World.size_alloc]; omega) (by rfl) (by rfl) ?_; intro ua uc w3 h1 h2 h3; have HR3 := Lib.hid h1; have HG3 := Lib.hid h2; have HO3 := Lib.hid h3; clear h1 h2 h3)
            go_roundw
            case rel =>
              refine ⟨j + 1, by go_num, by omega, (HY1.out.alloc _).grown' HG3.out (fun k e => by have := HRV.out.base k e; omega), ?_, ?_, ?_, by rw [HV2.out]; exact HR3.out⟩
              · have h1 := HY2.out; have h2 := HG3.out.size; simp only [World.size_alloc] at h2; omega
              · exact (HLY.out.up strR_up ((Up.refl _).alloc _)).str_kept HG3.out fun a n c e e2 => HSP.out _ a e2.symm (by cases e; rfl) rfl
              · intro g' a e1 e2 e3
                rcases HO3.out with h | h
                · exact HSP.out g' a (h.symm.trans e1) e2 e3
                · rw [h] at e1
                  have h1 := HGY.out
                  cases e2
                  cases e1
                  simp only [World.size_alloc] at e3
                  omega
            case measure => simp [intOf]; omega
          · rw [decide_eq_false e] at q
            have HV2 : Hid (U ++ oneF (has (R.take (j + 1)) fr) x = V) := Lib.hid (by rw [HHT.out, decide_eq_false e, Bool.or_false]; exact HV.out)
            clear e
            go_wp2
            go_roundw
            case rel => exact ⟨j + 1, by go_num, by omega, HY1.out, HY2.out, HLY.out, HSP.out, by rw [HV2.out]; exact HRV.out⟩
            case measure => simp [intOf]; omega
        · obtain rfl : rn = j := by omega
          have HTK : Hid (R.take rn = R) := Lib.hid (List.take_of_length_le (by rw [HRL.out]; exact Nat.le_refl _))
          have HE : Hid ((all.take (i + 1)).filter G = V) := Lib.hid (by
            rw [HT.out, ← HV.out, ← HBJ.out, HTK.out, HGX.out]
            unfold oneF
            cases G x
            · show U = U ++ []
              rw [List.append_nil]
            · rfl)
          go_wp2
          go_roundw
          case rel => exact ⟨i + 1, by go_num, by omega, HY1.out, by rw [HE.out]; exact HRV.out⟩
          case measure => simp [intOf]; omega
    · obtain rfl : an = i := by omega
      have HTK : Hid (all.take an = all) := Lib.hid (List.take_of_length_le (by rw [HAN.out]; exact Nat.le_refl _))
      have HRF2 : Hid (RF = U) := Lib.hid (by rw [HRF.out, ← HUE.out, HTK.out])
      go_wp2
      go_ret
      refine ⟨_, rfl, HW.out, ?_⟩
      rw [HRF2.out]
      exact OwnS.new (by have := HR.out; rw [← HM.out] at this ⊢; exact this) HW1.out.size (by have := HLN.out; have := HM.out; omega)
end Go.Proofs.YtpccaifhcmcegaaGreat
end
