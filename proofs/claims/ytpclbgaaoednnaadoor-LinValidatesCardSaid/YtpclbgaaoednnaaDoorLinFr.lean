/-
  Format of the reference: digits, term, Format of linear forms (printed by tools/mkLinF.py).
-/
import Derived.Test.YtpclbgaaoednnaaDoorLinFl
import Derived.Test.YtpclbgaaoednnaaDoorLinDp
import Derived.Test.YtpclbgaaoednnaaDoorLin1
import Derived.Lib.ItoaMem
namespace Go.Proofs.YtpclbgaaoednnaaDoor
open Go.ChangeShapes Go.WideShapes Go.ChangeAt Go.RowKit
set_option linter.unusedVariables false
set_option linter.unusedSimpArgs false
set_option maxRecDepth 100000

set_option maxHeartbeats 2000000 in
theorem r05_digits (n : Int) (n0 : 0 ≤ n) (n1 : n < 18446744073709551616) (w : World) :
    Calls Tryd.prog 22 #[.int .u64 n] w fun e w' => e = .returned (.string ⟨(dec n).toArray⟩) ∧ Up w w' := by
  obtain ⟨u, rfl⟩ : ∃ u : Nat, n = u := ⟨n.toNat, by omega⟩
  have hdec : dec (u : Int) = Lib.decDigits u := by unfold dec; rw [Int.toNat_natCast]
  have hlen := dec_len n0 n1
  rw [hdec] at hlen ⊢
  obtain ⟨R, hR⟩ : ∃ R, Lib.decDigits u = R := ⟨_, rfl⟩
  rw [hR] at hlen ⊢
  have HR := Lib.hid hR
  have HL := Lib.hid hlen
  clear hdec hR hlen
  go_enter Tryd.func22, Tryd.ntmps22
  go_wp2
  go_loopw [0, 3] (fun nv sv wr => ∃ (x : Nat) (s : List UInt8), nv = .int .u64 x ∧ sv = .string ⟨s.toArray⟩ ∧ (x : Int) < 18446744073709551616 ∧ Lib.decDigits x ++ s = R ∧ Up w wr) (fun nv _ _ => (intOf nv).toNat)
  case atStart => exact ⟨u, [], rfl, rfl, n1, by rw [List.append_nil]; exact HR.out, Up.refl w⟩
  case round =>
    rename World => wr
    obtain ⟨x, s, rfl, rfl, hx, hs, hU⟩ := hrel
    have HS := Lib.hid hs
    have HU := Lib.hid hU
    have hsl : (s.length : Int) ≤ 100 := by
      have h1 : (Lib.decDigits x ++ s).length = R.length := by rw [hs]
      have h2 := HL.out
      rw [List.length_append] at h1
      omega
    obtain ⟨r, hr⟩ : ∃ r, x % 10 = r := ⟨_, rfl⟩
    obtain ⟨d, hd⟩ : ∃ d, x / 10 = d := ⟨_, rfl⟩
    have hx0 : (0 : Int) ≤ (x : Int) := by omega
    have e1 : (x : Int).tmod 10 = (r : Int) := by rw [Int.tmod_eq_emod_of_nonneg hx0]; omega
    have e2 : (x : Int) % 10 = (r : Int) := by omega
    have e3 : (x : Int).tdiv 10 = (d : Int) := by rw [Int.tdiv_eq_ediv_of_nonneg hx0]; omega
    have e4 : (x : Int) / 10 = (d : Int) := by omega
    have hr9 : (r : Int) ≤ 9 := by omega
    have hdx : (d : Int) ≤ (x : Int) := by omega
    obtain ⟨c, hc⟩ : ∃ c, UInt8.ofNat (48 + r) = c := ⟨_, rfl⟩
    have hcn : (c.toNat : Int) = 48 + (r : Int) := by
      rw [← hc, UInt8.toNat_ofNat']; omega
    have hcv : (convert 38 9 (.slice (some ⟨wr.heap.size, 0, none⟩) 1 1)).run Tryd.prog (wr.alloc (.cells #[.int .u8 (48 + (r : Int))] 5)) = .ok (.string ⟨#[c]⟩) (wr.alloc (.cells #[.int .u8 (48 + (r : Int))] 5)) :=
      run_convert_bytes_back (P := Tryd.prog) (wr.alloc (.cells #[.int .u8 (48 + (r : Int))] 5)) 38 9 5 ⟨wr.heap.size, 0, none⟩ 1 [c] Tryd.underlying38 Tryd.underlying5 Tryd.underlying9 (fun j hj => by
        obtain rfl : j = 0 := by simpa using hj
        rw [Lib.add_plain, World.cell?_alloc_new, List.getElem_cons_zero, hcn]
        rfl)
    have hcat : ∀ w, (Op.stringOp .add (⟨#[c]⟩ : ByteArray) ⟨s.toArray⟩).run Tryd.prog w = .ok (.string ⟨(c :: s).toArray⟩) w := fun w => run_string_add_lists w [c] s (by simp) (by omega)
    have HDD : Hid (Lib.decDigits x = (if x < 10 then [] else Lib.decDigits d) ++ [c]) := Lib.hid (by
      rw [Lib.decDigits, ← hc]
      by_cases h : x < 10
      · rw [dif_pos h, if_pos h, List.nil_append, ← hr, Nat.mod_eq_of_lt h]
      · rw [dif_neg h, if_neg h, hd, hr])
    have HX := Lib.hid (And.intro hr hd)
    clear hs hU hr hd hc hcn
    by_cases hx10 : x < 10
    · obtain rfl : d = 0 := by have := HX.out.2; omega
      have HG : Hid (c :: s = R) := Lib.hid (by
        have := HS.out
        rw [HDD.out, if_pos hx10, List.nil_append] at this; exact this)
      clear hx10
      go_wp2
      go_ret
      exact ⟨by rw [← HG.out]; rfl, HU.out.alloc _⟩
    · have hd0 : ((d : Int) == 0) = false := by have := HX.out.2; simp; omega
      have HG : Hid (Lib.decDigits d ++ (c :: s) = R) := Lib.hid (by
        have := HS.out
        rw [HDD.out, if_neg hx10, List.append_assoc] at this; exact this)
      have HDX : Hid (d < x) := Lib.hid (by have := HX.out.2; omega)
      clear hx10
      go_wp2
      go_roundw
      case rel => exact ⟨d, c :: s, rfl, rfl, by omega, HG.out, HU.out.alloc _⟩
      case measure => have := HDX.out; simp [intOf]; omega

set_option maxHeartbeats 1000000 in
theorem r05_term (s t : List UInt8) (neg : Bool) (w : World) (hs : (s.length : Int) ≤ 1000000) (ht : (t.length : Int) ≤ 1000000) :
    Calls Tryd.prog 23 #[.string ⟨s.toArray⟩, .bool neg, .string ⟨t.toArray⟩] w fun e w' => e = .returned (.string ⟨(s ++ signT s neg ++ t).toArray⟩) ∧ w' = w := by
  by_cases h0 : s = []
  · subst h0
    cases neg
    · have e : [] ++ signT [] false ++ t = t := by unfold signT; simp
      rw [e]
      clear e
      go_enter Tryd.func23, Tryd.ntmps23
      go_wp2
      go_ret
      exact ⟨rfl, rfl⟩
    · have e : [] ++ signT [] true ++ t = [45] ++ t := by unfold signT; simp
      rw [e]
      clear e
      have hcat : ∀ w, (Op.stringOp .add (⟨#[45]⟩ : ByteArray) ⟨t.toArray⟩).run Tryd.prog w = .ok (.string ⟨([45] ++ t).toArray⟩) w := fun w => run_string_add_lists w [45] t (by decide) (by omega)
      go_enter Tryd.func23, Tryd.ntmps23
      go_wp2
      go_ret
      exact ⟨rfl, rfl⟩
  · have hb : s.isEmpty = false := by cases s with
      | nil => exact absurd rfl h0
      | cons _ _ => rfl
    obtain ⟨m, hm, hcat⟩ : ∃ m : List UInt8, (if neg then [32, 45, 32] else [32, 43, 32]) = m ∧ (m.length : Int) ≤ 3 := ⟨_, rfl, by cases neg <;> decide⟩
    have e : s ++ signT s neg ++ t = (s ++ m) ++ t := by unfold signT; rw [if_neg h0, hm]
    rw [e]
    have hc2 : ∀ w, (Op.stringOp .add (⟨(s ++ m).toArray⟩ : ByteArray) ⟨t.toArray⟩).run Tryd.prog w = .ok (.string ⟨((s ++ m) ++ t).toArray⟩) w := fun w => run_string_add_lists w (s ++ m) t (by rw [List.length_append]; omega) (by omega)
    clear e
    cases neg
    · have hm' : [32, 43, 32] = m := hm
      subst hm'
      have hc1 : ∀ w, (Op.stringOp .add (⟨s.toArray⟩ : ByteArray) ⟨#[32, 43, 32]⟩).run Tryd.prog w = .ok (.string ⟨(s ++ [32, 43, 32]).toArray⟩) w := fun w => run_string_add_lists w s [32, 43, 32] (by omega) (by decide)
      clear hm hcat
      go_enter Tryd.func23, Tryd.ntmps23
      go_wp2
      go_ret
      exact ⟨by rw [List.append_assoc]; rfl, rfl⟩
    · have hm' : [32, 45, 32] = m := hm
      subst hm'
      have hc1 : ∀ w, (Op.stringOp .add (⟨s.toArray⟩ : ByteArray) ⟨#[32, 45, 32]⟩).run Tryd.prog w = .ok (.string ⟨(s ++ [32, 45, 32]).toArray⟩) w := fun w => run_string_add_lists w s [32, 45, 32] (by omega) (by decide)
      clear hm hcat
      go_enter Tryd.func23, Tryd.ntmps23
      go_wp2
      go_ret
      exact ⟨by rw [List.append_assoc]; rfl, rfl⟩
theorem formatL_len2 : ∀ (l : List Mono), (∀ m ∈ l, In64 m.2 ∧ m.1.data.toList.length ≤ 16) → (formatL l).length ≤ 200 * l.length := by
  have key : ∀ (l : List Mono) (bs : List UInt8), (∀ m ∈ l, In64 m.2 ∧ m.1.data.toList.length ≤ 16) → (l.foldl (fun bs m => termT bs m.2 m.1.data.toList) bs).length ≤ bs.length + 200 * l.length := by
    intro l
    induction l with
    | nil => intro bs _; simp
    | cons m r ih =>
      intro bs h
      have h1 := ih (termT bs m.2 m.1.data.toList) fun x hx => h x (List.mem_cons_of_mem _ hx)
      have h2 := termT_len bs m.2 m.1.data.toList (h m List.mem_cons_self).1
      have h3 := (h m List.mem_cons_self).2
      rw [List.foldl_cons, List.length_cons]
      omega
  intro l h
  have := key l [] h
  simpa [formatL] using this

set_option maxHeartbeats 4000000 in
theorem r05_Format (K : Int) (v : Value) (l : List Mono) (w : World) (hv : MonosAt w v l) (hK : In64 K) (hl : Rng l) (hlen : l.length ≤ 1000) :
    Calls Tryd.prog 9 #[.agg #[.int .i64 K, v]] w fun e w' => e = .returned (.string ⟨(formatF K l).toArray⟩) ∧ Up w w' := by
  obtain ⟨T, hT⟩ : ∃ T, formatF K l = T := ⟨_, rfl⟩
  rw [hT]
  obtain ⟨a, cap, rfl⟩ := hv.slice
  obtain ⟨n, hn⟩ : ∃ n, l.length = n := ⟨_, rfl⟩
  have HN := Lib.hid hn
  rw [hn] at hv hlen ⊢
  have hnI : (n : Int) ≤ 1000 := by omega
  obtain ⟨q, hq⟩ : ∃ q, okL l = q := ⟨_, rfl⟩
  have HV := Lib.hid hv
  have HL := Lib.hid hl
  have HQ := Lib.hid hq
  have HK := Lib.hid hK
  have HR : Hid ((if q then (if K ≠ 0 ∨ n = 0 then termT (formatL l) K [] else formatL l) else []) = T) := Lib.hid (by rw [← hT]; unfold formatF; rw [hq, hn])
  have HVA : Hid (∀ (w : World), MonosAt w (.slice a n cap) l → Calls Tryd.prog 7 #[.agg #[.int .i64 K, .slice a n cap]] w fun e w' => e = .returned (.int .i64 (errOf q)) ∧ Up w w') := Lib.hid fun w hv => by
    have := r05_Validate K (.slice a n cap) l w hv
    rw [hq] at this
    exact this
  obtain ⟨k0, k1⟩ := hK
  clear hT hv hn hl hq
  go_enter Tryd.func9, Tryd.ntmps9
  go_wp2_with fail
  refine (HVA.out _ (HV.out.up ((Up.refl w).alloc _))).mono ?_
  rintro e x1 ⟨rfl, hx1⟩
  have hs := hx1.size
  rw [size_alloc] at hs
  have d0 : x1.cell? ⟨w.heap.size, 0, none⟩ = some (.int .i64 K) := (hx1.cell _ _ (by rw [size_alloc]; omega)).trans (by go_simp)
  have d1 : x1.cell? ⟨w.heap.size, 1, none⟩ = some (.slice a n cap) := (hx1.cell _ _ (by rw [size_alloc]; omega)).trans (by go_simp)
  have HU1 := Lib.hid (((Up.refl w).alloc (.cells #[.int .i64 K, .slice a n cap] 24)).trans hx1)
  have q0 : w.heap.size < x1.heap.size := by omega
  clear hx1 hs HVA
  cases q
  · rw [show errOf false = 1 from rfl]
    have HG : Hid (T = []) := Lib.hid (by rw [← HR.out]; rfl)
    go_wp2
    go_ret
    exact ⟨by rw [HG.out]; rfl, HU1.out⟩
  rw [show errOf true = 0 from rfl]
  replace HR := Lib.hid ((if_pos rfl).symm.trans HR.out)
  have HOK : Hid (okL l = true) := Lib.hid HQ.out
  clear HQ
  go_wp2
  go_loopw [3, 4] (fun sv iv wr => ∃ (i : Nat), i ≤ n ∧ iv = .int .i64 i ∧ sv = .string ⟨(formatL (l.take i)).toArray⟩ ∧ Up x1 wr) (fun _ iv _ => n - (intOf iv).toNat)
  case atStart => exact ⟨0, by omega, rfl, by rw [List.take_zero]; rfl, Up.refl _⟩
  case round =>
    rename World => wr
    obtain ⟨i, hi, rfl, rfl, hU⟩ := hrel
    have HU := Lib.hid hU
    have HUw := Lib.hid (HU1.out.trans hU)
    have c0 := (hU.cell _ _ q0).trans d0
    have c1 := (hU.cell _ _ q0).trans d1
    have q1 := Nat.lt_of_lt_of_le q0 hU.size
    obtain ⟨s, hs⟩ : ∃ s, formatL (l.take i) = s := ⟨_, rfl⟩
    have hsl : (s.length : Int) ≤ 200000 := by
      have h1 := formatL_len2 (l.take i) (fun m hm => ⟨HL.out.mem m (List.mem_of_mem_take hm), by
        have := (ok_name HOK.out m (List.mem_of_mem_take hm)).2
        have e : m.1.size = m.1.data.toList.length := by rw [Array.length_toList]; rfl
        omega⟩)
      rw [hs] at h1
      have h2 : (l.take i).length ≤ i := List.length_take_le _ _
      omega
    rw [hs]
    have HS := Lib.hid hs
    clear hU hs
    by_cases hlt : i < n
    · have hltI : (i : Int) < n := by omega
      have hi0 : (0 : Int) ≤ (i : Int) := by omega
      obtain ⟨bl, off, nm, y, rfl, p1, p2, p3, p4⟩ := HV.out.elem HUw.out i (by rw [HN.out]; exact hlt) HN.out rfl
      have hy : In64 y := by
        have := HL.out i (by rw [HN.out]; exact hlt)
        rw [p2] at this; exact this
      have hmem : (nm, y) ∈ l := by
        have h9 : i < l.length := by rw [HN.out]; exact hlt
        rw [List.getD_eq_getElem?_getD, List.getElem?_eq_getElem h9] at p2
        exact p2 ▸ List.getElem_mem h9
      obtain ⟨hn1, hn2⟩ := ok_name HOK.out _ hmem
      dsimp only at hn1 hn2
      obtain ⟨N, hN⟩ : ∃ N : List UInt8, nm.data.toList = N := ⟨_, rfl⟩
      have hnm : nm = ⟨N.toArray⟩ := by rw [← hN]
      have hNl : (N.length : Int) ≤ 16 := by rw [← hN, Array.length_toList]; exact Int.ofNat_le.2 hn2
      rw [hN] at hn1
      have HT : Hid (formatL (l.take (i + 1)) = termT s y N) := Lib.hid (by
        rw [take_snoc (by rw [HN.out]; exact hlt) p2, formatL_snoc, HS.out]
        dsimp only
        rw [hN])
      subst hnm
      obtain ⟨M, hM⟩ : ∃ M, mag y = M := ⟨_, rfl⟩
      have hM0 : 0 ≤ M := hM ▸ mag_nonneg y
      obtain ⟨y0, y1⟩ := hy
      have hM1 : M ≤ 9223372036854775808 := by rw [← hM]; unfold mag; split <;> omega
      have HSZ : Hid (∀ w, Calls Tryd.prog 21 #[.int .i64 y] w fun e w' => e = .returned (.int .u64 M) ∧ w' = w) := Lib.hid fun w => hM ▸ r05_size y y0 y1 w
      have HDI : Hid (∀ w, Calls Tryd.prog 22 #[.int .u64 M] w fun e w' => e = .returned (.string ⟨(dec M).toArray⟩) ∧ Up w w') := Lib.hid fun w => r05_digits M hM0 (by omega) w
      have HMY := Lib.hid hM
      have hdl : ((dec M).length : Int) ≤ 100 := by have := dec_len hM0 (by omega : M < 18446744073709551616); omega
      have q5 : bl < wr.heap.size := by have := HUw.out.size; omega
      have HN1 := Lib.hid hn1
      clear p2 hmem hn1 hn2 hN hM
      by_cases hM1' : M = 1
      · subst hM1'
        have HTT : Hid (termT s y N = s ++ signT s (decide (y < 0)) ++ N) := Lib.hid (by
          unfold termT numT
          rw [if_neg HN1.out, HMY.out, if_pos rfl]; simp)
        have hne : ((1 : Int) != 1) = false := rfl
        by_cases hyn : y < 0
        · have HTM : Hid (∀ w, Calls Tryd.prog 23 #[.string ⟨s.toArray⟩, .bool true, .string ⟨N.toArray⟩] w fun e w' => e = .returned (.string ⟨(termT s y N).toArray⟩) ∧ w' = w) := Lib.hid fun w => by
            have := r05_term s N true w (by omega) (by omega)
            rw [HTT.out, decide_eq_true hyn]; exact this
          have hyd : decide (y < 0) = true := decide_eq_true hyn
          go_wp2_with fail
          refine (HSZ.out _).mono ?_
          rintro e x5 ⟨rfl, hx5⟩
          replace hx5 := hx5.symm
          subst hx5
          go_wp2_with fail
          refine (HTM.out _).mono ?_
          rintro e x5 ⟨rfl, hx5⟩
          replace hx5 := hx5.symm
          subst hx5
          go_wp2
          go_roundw
          case rel => exact ⟨i + 1, by omega, by go_num, by rw [HT.out], HU.out⟩
          case measure => simp [intOf]; omega
        · have HTM : Hid (∀ w, Calls Tryd.prog 23 #[.string ⟨s.toArray⟩, .bool false, .string ⟨N.toArray⟩] w fun e w' => e = .returned (.string ⟨(termT s y N).toArray⟩) ∧ w' = w) := Lib.hid fun w => by
            have := r05_term s N false w (by omega) (by omega)
            rw [HTT.out, decide_eq_false hyn]; exact this
          have hyd : decide (y < 0) = false := decide_eq_false hyn
          go_wp2_with fail
          refine (HSZ.out _).mono ?_
          rintro e x5 ⟨rfl, hx5⟩
          replace hx5 := hx5.symm
          subst hx5
          go_wp2_with fail
          refine (HTM.out _).mono ?_
          rintro e x5 ⟨rfl, hx5⟩
          replace hx5 := hx5.symm
          subst hx5
          go_wp2
          go_roundw
          case rel => exact ⟨i + 1, by omega, by go_num, by rw [HT.out], HU.out⟩
          case measure => simp [intOf]; omega
      · have hne : (M != 1) = true := by simpa using hM1'
        have hne2 : (M == 1) = false := by simpa using hM1'
        have HTT : Hid (termT s y N = s ++ signT s (decide (y < 0)) ++ ((dec M ++ [42]) ++ N)) := Lib.hid (by
          unfold termT numT
          rw [if_neg HN1.out, HMY.out, if_neg hM1']; simp)
        have hc1 : ∀ w, (Op.stringOp .add (⟨(dec M).toArray⟩ : ByteArray) ⟨#[42]⟩).run Tryd.prog w = .ok (.string ⟨(dec M ++ [42]).toArray⟩) w := fun w => run_string_add_lists w (dec M) [42] (by omega) (by decide)
        have hc2 : ∀ w, (Op.stringOp .add (⟨(dec M ++ [42]).toArray⟩ : ByteArray) ⟨N.toArray⟩).run Tryd.prog w = .ok (.string ⟨((dec M ++ [42]) ++ N).toArray⟩) w := fun w => run_string_add_lists w (dec M ++ [42]) N (by rw [List.length_append]; simp; omega) (by omega)
        have hTl : ((((dec M ++ [42]) ++ N).length : Nat) : Int) ≤ 1000 := by simp only [List.length_append, List.length_cons, List.length_nil]; omega
        obtain ⟨TT, hTT⟩ : ∃ TT, (dec M ++ [42]) ++ N = TT := ⟨_, rfl⟩
        rw [hTT] at HTT hc2 hTl
        clear hM1'
        by_cases hyn : y < 0
        · have HTM : Hid (∀ w, Calls Tryd.prog 23 #[.string ⟨s.toArray⟩, .bool true, .string ⟨TT.toArray⟩] w fun e w' => e = .returned (.string ⟨(termT s y N).toArray⟩) ∧ w' = w) := Lib.hid fun w => by
            have := r05_term s TT true w (by omega) (by omega)
            rw [HTT.out, decide_eq_true hyn]; exact this
          have hyd : decide (y < 0) = true := decide_eq_true hyn
          clear hTT hTl
          go_wp2_with fail
          refine (HSZ.out _).mono ?_
          rintro e x5 ⟨rfl, hx5⟩
          replace hx5 := hx5.symm
          subst hx5
          go_wp2_with fail
          refine (HSZ.out _).mono ?_
          rintro e x5 ⟨rfl, hx5⟩
          replace hx5 := hx5.symm
          subst hx5
          go_wp2_with fail
          refine (HDI.out _).mono ?_
          rintro e x5 ⟨rfl, hx5⟩
          have HU5 := Lib.hid (HU.out.trans hx5)
          clear hx5 c0 c1
          go_wp2_with fail
          refine (HTM.out _).mono ?_
          rintro e x6 ⟨rfl, hx6⟩
          replace hx6 := hx6.symm
          subst hx6
          go_wp2
          go_roundw
          case rel => exact ⟨i + 1, by omega, by go_num, by rw [HT.out], HU5.out⟩
          case measure => simp [intOf]; omega
        · have HTM : Hid (∀ w, Calls Tryd.prog 23 #[.string ⟨s.toArray⟩, .bool false, .string ⟨TT.toArray⟩] w fun e w' => e = .returned (.string ⟨(termT s y N).toArray⟩) ∧ w' = w) := Lib.hid fun w => by
            have := r05_term s TT false w (by omega) (by omega)
            rw [HTT.out, decide_eq_false hyn]; exact this
          have hyd : decide (y < 0) = false := decide_eq_false hyn
          clear hTT hTl
          go_wp2_with fail
          refine (HSZ.out _).mono ?_
          rintro e x5 ⟨rfl, hx5⟩
          replace hx5 := hx5.symm
          subst hx5
          go_wp2_with fail
          refine (HSZ.out _).mono ?_
          rintro e x5 ⟨rfl, hx5⟩
          replace hx5 := hx5.symm
          subst hx5
          go_wp2_with fail
          refine (HDI.out _).mono ?_
          rintro e x5 ⟨rfl, hx5⟩
          have HU5 := Lib.hid (HU.out.trans hx5)
          clear hx5 c0 c1
          go_wp2_with fail
          refine (HTM.out _).mono ?_
          rintro e x6 ⟨rfl, hx6⟩
          replace hx6 := hx6.symm
          subst hx6
          go_wp2
          go_roundw
          case rel => exact ⟨i + 1, by omega, by go_num, by rw [HT.out], HU5.out⟩
          case measure => simp [intOf]; omega
    · obtain rfl : i = n := by omega
      have hltI : ¬ (i : Int) < (i : Int) := by omega
      have HSL : Hid (formatL l = s) := Lib.hid (by have := HS.out; rw [List.take_of_length_le (by rw [HN.out]; exact Nat.le_refl _)] at this; exact this)
      have HR2 : Hid ((if K ≠ 0 ∨ i = 0 then termT s K [] else s) = T) := Lib.hid (by rw [← HR.out, HSL.out])
      clear HS HR HSL
      by_cases hfin : K ≠ 0 ∨ i = 0
      · have HTT : Hid (s ++ signT s (decide (K < 0)) ++ dec (mag K) = T) := Lib.hid (by
          rw [← HR2.out, if_pos hfin]
          unfold termT numT
          simp)
        obtain ⟨M, hM⟩ : ∃ M, mag K = M := ⟨_, rfl⟩
        have hM0 : 0 ≤ M := hM ▸ mag_nonneg K
        have hM1 : M ≤ 9223372036854775808 := by rw [← hM]; unfold mag; split <;> omega
        have hdl : ((dec M).length : Int) ≤ 100 := by have := dec_len hM0 (by omega : M < 18446744073709551616); omega
        rw [hM] at HTT
        have HSZ : Hid (∀ W, Calls Tryd.prog 21 #[.int .i64 K] W fun e w' => e = .returned (.int .u64 M) ∧ Up W w') := Lib.hid fun W => by
          have := r05_size K k0 k1 W
          rw [hM] at this
          exact this.mono fun e w' ⟨h1, h2⟩ => ⟨h1, h2 ▸ Up.refl _⟩
        have HDI : Hid (∀ W, Calls Tryd.prog 22 #[.int .u64 M] W fun e w' => e = .returned (.string ⟨(dec M).toArray⟩) ∧ Up W w') := Lib.hid fun W => r05_digits M hM0 (by omega) W
        obtain ⟨neg, hneg⟩ : ∃ b, decide (K < 0) = b := ⟨_, rfl⟩
        rw [hneg] at HTT
        have HTM : Hid (∀ W, Calls Tryd.prog 23 #[.string ⟨s.toArray⟩, .bool neg, .string ⟨(dec M).toArray⟩] W fun e w' => e = .returned (.string ⟨T.toArray⟩) ∧ Up W w') := Lib.hid fun W => by
          have := r05_term s (dec M) neg W (by omega) (by omega)
          rw [HTT.out] at this
          exact this.mono fun e w' ⟨h1, h2⟩ => ⟨h1, h2 ▸ Up.refl _⟩
        clear hM HTT HR2
        by_cases hK0 : K = 0
        · have hi00 : i = 0 := by rcases hfin with h | h; exact absurd hK0 h; exact h
          subst hK0
          subst hi00
          obtain rfl : neg = false := by rw [← hneg]; rfl
          clear hfin hneg
          go_wp2_with fail
          refine wp_region_ext (by kernel_rfl) (by kernel_rfl) ?_
          repeat (go_big_quiet_step (first | (go_at_call 21; exact Calls.ext_of (HSZ.out _)) | (go_at_call 22; exact Calls.ext_of (HDI.out _)) | (go_at_call 23; exact Calls.ext_of (HTM.out _))))
          refine wpQuiet_nil ?_
          intro x5 hx5
          go_wp2
          go_ret
          exact ⟨rfl, HUw.out.trans hx5⟩
        · have hK1 : (K != 0) = true := by simpa using hK0
          have hK2 : (K == 0) = false := by simpa using hK0
          clear hfin hK0
          go_wp2_with fail
          refine wp_region_ext (by kernel_rfl) (by kernel_rfl) ?_
          repeat (go_big_quiet_step (first | (go_at_call 21; exact Calls.ext_of (HSZ.out _)) | (go_at_call 22; exact Calls.ext_of (HDI.out _)) | (go_at_call 23; exact Calls.ext_of (HTM.out _))))
          refine wpQuiet_nil ?_
          intro x5 hx5
          go_wp2
          go_ret
          exact ⟨rfl, HUw.out.trans hx5⟩
      · have hK0 : K = 0 := by omega
        have hi00 : ¬ i = 0 := fun h => hfin (.inr h)
        have hiI : ((i : Int) == 0) = false := by simp; omega
        subst hK0
        have HG : Hid (s = T) := Lib.hid (by rw [← HR2.out, if_neg hfin])
        clear hfin HR2
        go_wp2
        go_ret
        exact ⟨by rw [← HG.out]; rfl, HUw.out⟩

end Go.Proofs.YtpclbgaaoednnaaDoor

