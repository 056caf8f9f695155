/-
  Format of linear forms, the program's side (printed by tools/mkLinF.py).
-/
import Derived.Test.YtpclbgaaoednnaaDoorCoF
import Derived.Test.YtpclbgaaoednnaaDoorLinSp
import Derived.Test.YtpclbgaaoednnaaDoorLinQ
import Derived.Test.YtpclbgaaoednnaaDoorLinSc
namespace Go.Proofs.YtpclbgaaoednnaaDoor
open Go.ChangeShapes Go.WideShapes Go.ChangeAt Go.RowKit
set_option linter.unusedVariables false
set_option linter.unusedSimpArgs false
set_option maxRecDepth 100000

def formatL (l : List Mono) : List UInt8 := l.foldl (fun bs m => termT bs m.2 m.1.data.toList) []
def formatF (K : Int) (l : List Mono) : List UInt8 := if okL l then (if K ≠ 0 ∨ l.length = 0 then termT (formatL l) K [] else formatL l) else []
theorem formatL_snoc (l : List Mono) (m : Mono) : formatL (l ++ [m]) = termT (formatL l) m.2 m.1.data.toList := by simp [formatL]
theorem decDigits_len : ∀ (k n : Nat), n < 10 ^ (k + 1) → (Lib.decDigits n).length ≤ k + 1 := by
  intro k
  induction k with
  | zero =>
    intro n h
    rw [Lib.decDigits, dif_pos (by simpa using h)]; simp
  | succ k ih =>
    intro n h
    rw [Lib.decDigits]
    split
    · simp
    · have := ih (n / 10) (by rw [Nat.pow_succ] at h; omega)
      rw [List.length_append]
      simp only [List.length_cons, List.length_nil]
      omega
theorem dec_len {n : Int} (h0 : 0 ≤ n) (h1 : n < 18446744073709551616) : (dec n).length ≤ 100 := by
  have := decDigits_len 19 n.toNat (by have : (10 : Nat) ^ (19 + 1) = 100000000000000000000 := by decide
                                       rw [this]; omega)
  unfold dec
  omega
theorem termT_len (bs : List UInt8) (y : Int) (nm : List UInt8) (hy : In64 y) : (termT bs y nm).length ≤ bs.length + 104 + nm.length := by
  obtain ⟨m0, m1, _⟩ := mag_range y hy
  have hd := dec_len m0 m1
  have hs : (signT bs (decide (y < 0))).length ≤ 3 := by unfold signT; split <;> split <;> simp
  have hn : (numT (mag y) nm).length ≤ 101 := by
    unfold numT
    split
    · omega
    · split
      · simp
      · simp; omega
  unfold termT
  simp only [List.length_append]
  omega
/-- What FormatUint is asked. -/
def NeedN (K : Int) (l : List Mono) (n : Int) : Prop := n = mag K ∨ ∃ m ∈ l, n = mag m.2 ∧ n ≠ 1
theorem nameB_len {s : List UInt8} (h : nameB s = true) : 1 ≤ s.length ∧ s.length ≤ 16 := by
  unfold nameB at h
  simp only [Bool.and_eq_true, decide_eq_true_eq] at h
  exact ⟨h.1.1.1.1, h.1.1.1.2⟩
theorem ok_name {l : List Mono} (h : okL l = true) : ∀ m ∈ l, m.1.data.toList ≠ [] ∧ m.1.size ≤ 16 := by
  have key : ∀ (l : List Mono) p, okFrom p l = true → ∀ m ∈ l, m.1.data.toList ≠ [] ∧ m.1.size ≤ 16 := by
    intro l
    induction l with
    | nil => exact fun _ _ m hm => by cases hm
    | cons m r ih =>
      intro p h x hx
      obtain ⟨h1, _, _, h4⟩ := (okFrom_cons p m r).1 h
      rcases List.mem_cons.1 hx with rfl | hx
      · have h2 := nameB_len h1
        rw [ByteArray.toList_eq] at h2
        have h3 : x.1.size = x.1.data.toList.length := by rw [Array.length_toList]; rfl
        exact ⟨fun e => by rw [e] at h2; simp at h2, by omega⟩
      · exact ih _ h4 x hx
  exact key l none h

set_option maxHeartbeats 4000000 in
theorem lin_Format (K : Int) (v : Value) (l : List Mono) (w : World) (hv : MonosAt w v l) (hK : In64 K) (hl : Rng l) (hlen : l.length ≤ 1000)
    (hfu : okL l = true → ∀ n, NeedN K l n → ∀ x, Up w x → Calls Tryd.prog 19 #[.int .u64 n, .int .i64 10] x fun e x' => e = .returned (.string ⟨(dec n).toArray⟩) ∧ Up x x') :
    Calls Tryd.prog 8 #[.agg #[.int .i64 K, v]] w fun e w' => e = .returned (.string ⟨(formatF K l).toArray⟩) ∧ Up w w' := by
  obtain ⟨T, hT⟩ : ∃ T, formatF K l = T := ⟨_, rfl⟩
  rw [hT]
  obtain ⟨a, cap, rfl⟩ := hv.slice
  obtain ⟨n, hn⟩ : ∃ n, l.length = n := ⟨_, rfl⟩
  have HN := Lib.hid hn
  rw [hn] at hv hlen ⊢
  have hnI : (n : Int) ≤ 1000 := by omega
  obtain ⟨q, hq⟩ : ∃ q, okL l = q := ⟨_, rfl⟩
  have HV := Lib.hid hv
  have HL := Lib.hid hl
  have HFU := Lib.hid hfu
  have HQ := Lib.hid hq
  have HK := Lib.hid hK
  have HR : Hid ((if q then (if K ≠ 0 ∨ n = 0 then termT (formatL l) K [] else formatL l) else []) = T) := Lib.hid (by rw [← hT]; unfold formatF; rw [hq, hn])
  have HVA : Hid (∀ (w : World), MonosAt w (.slice a n cap) l → Calls Tryd.prog 6 #[.agg #[.int .i64 K, .slice a n cap]] w fun e w' => e = .returned (.int .i64 (errOf q)) ∧ Up w w') := Lib.hid fun w hv => by
    have := lin_Validate K (.slice a n cap) l w hv
    rw [hq] at this
    exact this
  clear hT hv hn hl hfu hq hK
  go_enter Tryd.func8, Tryd.ntmps8
  go_wp2_with fail
  refine (HVA.out _ (HV.out.up ((Up.refl w).alloc _))).mono ?_
  rintro e x1 ⟨rfl, hx1⟩
  have hs := hx1.size
  rw [size_alloc] at hs
  have d0 : x1.cell? ⟨w.heap.size, 0, none⟩ = some (.int .i64 K) := (hx1.cell _ _ (by rw [size_alloc]; omega)).trans (by go_simp)
  have d1 : x1.cell? ⟨w.heap.size, 1, none⟩ = some (.slice a n cap) := (hx1.cell _ _ (by rw [size_alloc]; omega)).trans (by go_simp)
  have HU1 := Lib.hid (((Up.refl w).alloc (.cells #[.int .i64 K, .slice a n cap] 24)).trans hx1)
  have q0 : w.heap.size < x1.heap.size := by omega
  clear hx1 hs HVA
  cases q
  · rw [show errOf false = 1 from rfl]
    have HG : Hid (T = []) := Lib.hid (by rw [← HR.out]; rfl)
    go_wp2
    go_ret
    exact ⟨by rw [HG.out]; rfl, HU1.out⟩
  rw [show errOf true = 0 from rfl]
  replace HR := Lib.hid ((if_pos rfl).symm.trans HR.out)
  have HOK : Hid (okL l = true) := Lib.hid HQ.out
  clear HQ
  have HBN := Lib.hid (Bld.new x1)
  have hal : Up x1 (x1.alloc (.cells #[.pointer none, .slice none 0 0] 40)) := (Up.refl x1).alloc _
  have e0 := (hal.cell _ _ q0).trans d0
  have e1 := (hal.cell _ _ q0).trans d1
  have HAL := Lib.hid hal
  go_wp2
  obtain ⟨W3, hW3⟩ : ∃ W, x1.alloc (.cells #[.pointer none, .slice none 0 0] 40) = W := ⟨_, rfl⟩
  rw [hW3] at HBN e0 e1 HAL ⊢
  obtain ⟨b, hb⟩ : ∃ b, x1.heap.size = b := ⟨_, rfl⟩
  rw [hb] at HBN q0
  try rw [hb]
  have HBX := Lib.hid hb
  have HE0 := Lib.hid e0
  have HE1 := Lib.hid e1
  clear hW3 hb d0 d1 hal e0 e1
  go_loopw [14] (fun iv wr => ∃ (i : Nat), i ≤ n ∧ iv = .int .i64 i ∧ Up x1 wr ∧ (∀ o, wr.cell? ⟨w.heap.size, o, none⟩ = W3.cell? ⟨w.heap.size, o, none⟩) ∧ Bld b b (Lib.byteCells (formatL (l.take i))) wr ∧ (formatL (l.take i)).length ≤ 200 * i) (fun iv _ => n - (intOf iv).toNat)
  case atStart => exact ⟨0, by omega, rfl, HAL.out, fun _ => rfl, by rw [List.take_zero]; exact HBN.out, by simp [formatL]⟩
  case round =>
    rename World => wr
    obtain ⟨i, hi, rfl, hU, hcs, hbd, hbl⟩ := hrel
    have HU := Lib.hid hU
    have HUw := Lib.hid (HU1.out.trans hU)
    have HCS := Lib.hid hcs
    have HBD := Lib.hid hbd
    have HLN := Lib.hid hbl
    have c0 := (hcs 0).trans HE0.out
    have c1 := (hcs 1).trans HE1.out
    have q1 : w.heap.size < wr.heap.size := by have := hU.size; rw [HBX.out] at this; omega
    clear hU hcs hbd hbl
    by_cases hlt : i < n
    · have hltI : (i : Int) < n := by omega
      have hi0 : (0 : Int) ≤ (i : Int) := by omega
      obtain ⟨bl, off, s, y, rfl, p1, p2, p3, p4⟩ := HV.out.elem HUw.out i (by rw [HN.out]; exact hlt) HN.out rfl
      have hy : In64 y := by
        have := HL.out i (by rw [HN.out]; exact hlt)
        rw [p2] at this; exact this
      have htk := take_snoc (by rw [HN.out]; exact hlt) p2
      have hmem : (s, y) ∈ l := by
        have h9 : i < l.length := by rw [HN.out]; exact hlt
        rw [List.getD_eq_getElem?_getD, List.getElem?_eq_getElem h9] at p2
        exact p2 ▸ List.getElem_mem h9
      obtain ⟨hnm, hsz⟩ := ok_name HOK.out _ hmem
      obtain ⟨t, ht⟩ : ∃ t, formatL (l.take i) = t := ⟨_, rfl⟩
      rw [ht] at HBD HLN
      have HT2 : Hid (formatL (l.take (i + 1)) = termT t y s.data.toList) := Lib.hid (by rw [htk, formatL_snoc, ht])
      have HTL : Hid ((termT t y s.data.toList).length ≤ 200 * (i + 1)) := Lib.hid (by
        have h1 := termT_len t y s.data.toList hy
        have h2 := HLN.out
        have h3 : s.data.toList.length = s.size := by rw [Array.length_toList]; rfl
        have h4 : s.size ≤ 16 := hsz
        omega)
      have HC : Hid (∀ x, Up wr x → Calls Tryd.prog 15 #[.int .i64 y, .string s, .pointer (some ⟨b, 0, none⟩)] x fun e w' => e = .returned (.tuple #[]) ∧ Bld b b (Lib.byteCells (termT t y s.data.toList)) w' ∧ Below b x w') := Lib.hid fun x hx => by
        obtain ⟨m0, m1, _⟩ := mag_range y hy
        have hbx : b ≤ x.heap.size := by have := HU.out.size; have := hx.size; rw [← HBX.out]; omega
        refine fmt_term b b t y s x hy (HBD.out.up hx) hbx (by have := HLN.out; have : s.size ≤ 16 := hsz; omega) (dec_len m0 m1) fun hne z hz => ?_
        refine HFU.out HOK.out (mag y) (.inr ⟨(s, y), hmem, rfl, fun e1 => hne ?_⟩) z (Below.trans (HUw.out.trans hx) (Below.mono hz (by have := HUw.out.size; have := HU1.out.size; rw [HBX.out] at this; omega)))
        unfold numT
        rw [if_neg hnm, if_pos e1]
      have q5 : bl < wr.heap.size := by have := HUw.out.size; omega
      obtain ⟨y0, y1⟩ := hy
      clear p2 htk hmem hnm hsz ht HBD
      go_wp2_with fail
      refine (HC.out _ ((Up.refl wr).alloc _)).mono ?_
      rintro e x ⟨rfl, hbd2, hx⟩
      have hbw : b ≤ wr.heap.size := by have := HU.out.size; rw [HBX.out] at this; omega
      have HB2 := Lib.hid hbd2
      have HUX : Hid (Up x1 x) := Lib.hid (Below.trans (HU.out.alloc (.cells #[.string s, .int .i64 y] 31)) (by rw [HBX.out]; exact hx))
      have HCX : Hid (∀ o, x.cell? ⟨w.heap.size, o, none⟩ = W3.cell? ⟨w.heap.size, o, none⟩) := Lib.hid fun o => by
        rw [Below.cell (p := ⟨w.heap.size, o, none⟩) hx q0, ((Up.refl wr).alloc _).cell _ _ q1]
        exact HCS.out o
      clear hbd2 hx HC
      go_wp2
      go_roundw
      case rel => exact ⟨i + 1, by omega, by go_num, HUX.out, HCX.out, by rw [HT2.out]; exact HB2.out, by rw [HT2.out]; exact HTL.out⟩
      case measure => simp [intOf]; omega
    · obtain rfl : i = n := by omega
      have hta : l.take i = l := List.take_of_length_le (by rw [HN.out]; exact Nat.le_refl _)
      rw [hta] at HBD HLN
      obtain ⟨t, ht⟩ : ∃ t, formatL l = t := ⟨_, rfl⟩
      rw [ht] at HBD HLN HR
      have hbw : b ≤ wr.heap.size := by have := HU.out.size; rw [HBX.out] at this; omega
      have HBW := Lib.hid hbw
      obtain ⟨k0, k1⟩ := HK.out
      clear hta ht
      by_cases hk : K ≠ 0 ∨ i = 0
      · have HG : Hid (termT t K [] = T) := Lib.hid (by rw [← HR.out, if_pos hk])
        obtain ⟨m0, m1, _⟩ := mag_range K HK.out
        have HC : Hid (Calls Tryd.prog 15 #[.int .i64 K, .string ⟨#[]⟩, .pointer (some ⟨b, 0, none⟩)] wr fun e w' => e = .returned (.tuple #[]) ∧ Bld b b (Lib.byteCells (termT t K [])) w' ∧ Below b wr w') := Lib.hid (by
          refine fmt_term b b t K ⟨#[]⟩ wr HK.out HBD.out hbw (by have := HLN.out; simp [ByteArray.size]; omega) (dec_len m0 m1) fun hne z hz => ?_
          exact HFU.out HOK.out (mag K) (.inl rfl) z (Below.trans HUw.out (Below.mono hz (by have := HU1.out.size; rw [HBX.out] at this; omega))))
        have hfin : ∀ x, Bld b b (Lib.byteCells T) x → b ≤ x.heap.size → Calls Tryd.prog 20 #[.pointer (some ⟨b, 0, none⟩)] x fun e w' => e = .returned (.string ⟨T.toArray⟩) ∧ Below b x w' := fun x h1 h2 => Tryd.Builder_String_any b b T x h1 h2
        have HST := Lib.hid hfin
        rw [HG.out] at HC
        have HUF : Hid (∀ x x', Below b wr x → Below b x x' → Up w x') := Lib.hid fun x x' h1 h2 => HU1.out.trans (Below.trans HU.out (by rw [HBX.out]; exact h1.trans h2))
        clear hfin
        by_cases hk0 : K = 0
        · obtain rfl := hk0
          have hi0 : i = 0 := by
            rcases hk with h | h
            · exact absurd rfl h
            · exact h
          subst hi0
          go_wp2_with fail
          refine HC.out.mono ?_
          rintro e x ⟨rfl, hbd2, hx⟩
          go_wp2_with fail
          refine (HST.out _ hbd2 (by have := hx.size; have := HBW.out; omega)).mono ?_
          rintro e x' ⟨rfl, hx'⟩
          have HZ := Lib.hid (HUF.out _ _ hx hx')
          go_wp2
          go_ret
          exact ⟨rfl, HZ.out⟩
        · have hk1 : (K == 0) = false := by simpa using hk0
          go_wp2_with fail
          refine HC.out.mono ?_
          rintro e x ⟨rfl, hbd2, hx⟩
          go_wp2_with fail
          refine (HST.out _ hbd2 (by have := hx.size; have := HBW.out; omega)).mono ?_
          rintro e x' ⟨rfl, hx'⟩
          have HZ := Lib.hid (HUF.out _ _ hx hx')
          go_wp2
          go_ret
          exact ⟨rfl, HZ.out⟩
      · have hk0 : K = 0 := by
          rcases Int.decEq K 0 with h | h
          · exact absurd (.inl h) hk
          · exact h
        have hi0 : ¬ i = 0 := fun h => hk (.inr h)
        have HG : Hid (t = T) := Lib.hid (by rw [← HR.out, if_neg hk])
        obtain rfl := hk0
        have hi1 : ((i : Int) == 0) = false := by simp; omega
        rw [HG.out] at HBD
        have HST : Hid (Calls Tryd.prog 20 #[.pointer (some ⟨b, 0, none⟩)] wr fun e w' => e = .returned (.string ⟨T.toArray⟩) ∧ Below b wr w') := Lib.hid (Tryd.Builder_String_any b b T wr HBD.out hbw)
        have HUF : Hid (∀ x', Below b wr x' → Up w x') := Lib.hid fun x' h1 => HU1.out.trans (Below.trans HU.out (by rw [HBX.out]; exact h1))
        clear hk
        go_wp2_with fail
        refine HST.out.mono ?_
        rintro e x' ⟨rfl, hx'⟩
        have HZ := Lib.hid (HUF.out _ hx')
        go_wp2
        go_ret
        exact ⟨rfl, HZ.out⟩

theorem formatL_len {l : List Mono} (hr : ∀ m ∈ l, In64 m.2) (hn : ∀ m ∈ l, m.1.size ≤ 16) : ∀ k, k ≤ l.length → (formatL (l.take k)).length ≤ 200 * k := by
  intro k
  induction k with
  | zero => intro _; rw [List.take_zero]; simp [formatL]
  | succ k ih =>
    intro hk
    have h9 : k < l.length := by omega
    have hm : l[k] ∈ l := List.getElem_mem h9
    have htk : l.take (k + 1) = l.take k ++ [l[k]] := take_snoc h9 (by rw [List.getD_eq_getElem?_getD, List.getElem?_eq_getElem h9]; rfl)
    rw [htk, formatL_snoc]
    have h1 := termT_len (formatL (l.take k)) l[k].2 l[k].1.data.toList (hr _ hm)
    have h2 := ih (by omega)
    have h3 : l[k].1.data.toList.length = l[k].1.size := by rw [Array.length_toList]; rfl
    have h4 := hn _ hm
    omega
theorem formatF_len {K : Int} {l : List Mono} (hK : In64 K) (hr : Rng l) (hlen : l.length ≤ 1000) : (formatF K l).length ≤ 300000 := by
  unfold formatF
  by_cases hq : okL l = true
  · rw [if_pos hq]
    have h1 := formatL_len hr.mem (fun m hm => (ok_name hq m hm).2) l.length (Nat.le_refl _)
    rw [List.take_of_length_le (Nat.le_refl _)] at h1
    split
    · have h2 := termT_len (formatL l) K [] hK
      simp only [List.length_nil] at h2
      omega
    · omega
  · rw [if_neg hq]; simp
end Go.Proofs.YtpclbgaaoednnaaDoor

