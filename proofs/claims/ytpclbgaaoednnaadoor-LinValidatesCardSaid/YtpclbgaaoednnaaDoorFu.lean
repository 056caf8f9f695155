/-
  strconv.FormatUint at base 10, for every number; the table of powers of ten outlives what only makes memory.
-/
import Derived.Test.YtpclbgaaoednnaaDoorCoF
import Derived.Test.YtpclbgaaoednnaaDoorShelf
import Derived.Lib.ItoaMem
import Derived.Lib.OwnBridge
import Derived.BigCall
import Derived.BigGuard
import Derived.LaidMore
namespace Go.Proofs.YtpclbgaaoednnaaDoor
open Go.ChangeShapes Go.WideShapes Go.ChangeAt Go.RowKit Go.Sort
set_option linter.unusedVariables false
set_option linter.unusedSimpArgs false

abbrev FTab (w : World) : Prop := Lib.TabIs Tryd.prog w "internal/strconv.uint64pow10" .u64 Lib.pow10Tab
theorem FTab.up {W W' : World} (h : FTab W) (u : Up W W') : FTab W' := by
  unfold FTab Lib.TabIs World.var? at h ⊢
  cases hg : Tryd.prog.globalNamed "internal/strconv.uint64pow10" with
  | none => rw [hg] at h; cases h
  | some g =>
    rw [hg] at h
    simp only [Option.bind_some] at h ⊢
    have hb : g < W.heap.size := by
      rcases Nat.lt_or_ge g W.heap.size with h' | h'
      · exact h'
      · rw [Array.getElem?_eq_none h'] at h; cases h
    rw [u.heap g hb]; exact h
theorem holds_zero0 (w : World) (T : TypeId) (nd : Nat) (hs : nd ≤ 24) : Holds (fun (b : UInt8) => Value.int .u8 (b.toNat : Int)) (w.alloc (.cells Lib.zeros24 T)) w.heap.size 0 (Array.replicate nd (0 : UInt8)) := fun j hj => by
  have hj' : j < nd := by simpa using hj
  refine ⟨?_, World.frozen?_alloc_new _ _ _ _⟩
  rw [World.cell?_alloc_new, Lib.zeros24_at _ (by omega), getElem!_pos _ j hj]
  simp

set_option maxHeartbeats 6400000 in
set_option maxRecDepth 100000 in
theorem is_FormatUint (n : Int) (n0 : 0 ≤ n) (n1 : n < 18446744073709551616) (w : World) (htab : FTab w) :
    Calls Tryd.prog 32 #[.int .u64 n, .int .i64 10] w fun e w' => e = .returned (.string ⟨(dec n).toArray⟩) ∧ Up w w' := by
  obtain ⟨u, rfl⟩ : ∃ u : Nat, n = u := ⟨n.toNat, by omega⟩
  have hdec : dec (u : Int) = Lib.decDigits u := by unfold dec; rw [Int.toNat_natCast]
  rw [hdec]
  by_cases hs : u < 100
  · have hsI : (u : Int) < 100 := by omega
    clear hdec
    go_enter Tryd.func32, Tryd.ntmps32
    go_wp2_with (go_at_call 36; refine (Tryd.internal_strconv_small u hs _).mono ?_; rintro e w' ⟨rfl, rfl⟩)
    go_ret
    exact ⟨rfl, Up.refl _⟩
  · have hsI : ¬ (u : Int) < 100 := by omega
    have hu1 : 1 ≤ u := by omega
    have hu64 : u < 18446744073709551616 := by omega
    have hnd20 : Lib.nDigits u ≤ 20 := by have := Lib.numDigits_eq u hu1 hu64; split at this <;> omega
    obtain ⟨d, hd⟩ : ∃ d, Lib.nDigits u = d := ⟨_, rfl⟩
    have hal : Tryd.prog.arrayLen 74 = 24 := by kernel_rfl
    have hsl1 : ∀ W, (Instr.sliceAt 74 (.pointer (some ⟨w.heap.size, 0, none⟩)) none (some (.int .i64 (d : Int))) none).run Tryd.prog W = .ok (.slice (some ⟨w.heap.size, 0, none⟩) d 24) W := fun W => by
      rw [run_sliceAt_array_h W 74 ⟨w.heap.size, 0, none⟩ (by simp [Program.arrayLen, Program.elem, Tryd.underlying74]) .i64 (d : Int) (by omega) (by rw [hal]; omega)]
      go_simp
    have hH0 := holds_zero0 w 74 d (by omega)
    have hfmt := Tryd.internal_strconv_formatBase10 w.heap.size 0 24 u (Array.replicate d 0) (w.alloc (.cells Lib.zeros24 74)) hH0 (by rw [Array.size_replicate, ← hd]; exact Lib.lt_pow_nDigits u) hu64 (by rw [Array.size_replicate]; omega)
    rw [Array.size_replicate] at hfmt
    have hnum := Tryd.internal_strconv_numDigits u hu1 hu64 (w.alloc (.cells Lib.zeros24 74)) (Lib.tabIs_alloc htab _)
    rw [hd] at hnum
    have HH0 := Lib.hid hH0
    have HD := Lib.hid hd
    have HF := Lib.hid hfmt
    have HNU := Lib.hid hnum
    have hd20 : d ≤ 20 := by omega
    clear hH0 hal hdec hd hfmt hnum hnd20 htab
    go_enter Tryd.func32, Tryd.ntmps32
    go_wp2_with fail
    refine HNU.out.mono ?_
    rintro e w' ⟨rfl, hw'⟩
    subst hw'
    go_wp2_with fail
    refine HF.out.mono ?_
    rintro e w' ⟨rfl, k, v', dk, rfl, hF⟩
    have hcv : (convert 38 9 (.slice (some ⟨w.heap.size, 0, none⟩) d 24)).run Tryd.prog ((putRow (fun (b : UInt8) => Value.int .u8 (b.toNat : Int)) (w.alloc (.cells Lib.zeros24 74)) w.heap.size 0 dk).drewN k) = .ok (.string ⟨(Lib.decDigits u).toArray⟩) ((putRow (fun (b : UInt8) => Value.int .u8 (b.toNat : Int)) (w.alloc (.cells Lib.zeros24 74)) w.heap.size 0 dk).drewN k) := by
      rw [← HD.out] at hF
      have h := run_convert_bytes_back (P := Tryd.prog) ((putRow (fun (b : UInt8) => Value.int .u8 (b.toNat : Int)) (w.alloc (.cells Lib.zeros24 74)) w.heap.size 0 dk).drewN k) 38 9 5 ⟨w.heap.size, 0, none⟩ 24 (Lib.decDigits u) Tryd.underlying38 Tryd.underlying5 Tryd.underlying9 (fun j hj => by
        rw [Lib.row_is_numeral hF j hj, Lib.add_plain, World.cell?_drewN]
        exact cell?_putRow (fun (b : UInt8) => Value.int .u8 (b.toNat : Int)) _ w.heap.size 0 _ dk HH0.out (by rw [hF.size, Array.size_replicate, HD.out]) j (by rw [hF.size]; rw [Lib.decDigits_length] at hj; exact hj))
      rw [Lib.decDigits_length, HD.out] at h
      exact h
    have HUE : Hid (Up w ((putRow (fun (b : UInt8) => Value.int .u8 (b.toNat : Int)) (w.alloc (.cells Lib.zeros24 74)) w.heap.size 0 dk).drewN k)) := Lib.hid (Up.drewN k (by
      have h := Lib.below_putRow (enc := fun (b : UInt8) => Value.int .u8 (b.toNat : Int)) (q := 0) (d := dk) (g := w.heap.size) ((Up.refl w).alloc (.cells Lib.zeros24 74)) (Nat.le_refl _)
      rw [Sort.ahead_zero] at h
      exact h))
    clear hF
    go_wp2
    go_ret
    exact ⟨rfl, HUE.out⟩
set_option maxRecDepth 100000 in
theorem s_FormatUint (n : Int) (n0 : 0 ≤ n) (n1 : n < 18446744073709551616) (w : World) (htab : FTab w) :
    Calls Tryd.prog 19 #[.int .u64 n, .int .i64 10] w fun e w' => e = .returned (.string ⟨(dec n).toArray⟩) ∧ Up w w' := by
  obtain ⟨t, ht⟩ : ∃ t, dec n = t := ⟨_, rfl⟩
  have H := Lib.hid (is_FormatUint n n0 n1 w htab)
  rw [ht] at H ⊢
  clear ht htab n0 n1
  go_enter Tryd.func19, Tryd.ntmps19
  go_wp2_with fail
  refine H.out.mono ?_
  rintro e x ⟨rfl, hx⟩
  go_wp2
  go_ret
  exact ⟨rfl, hx⟩
end Go.Proofs.YtpclbgaaoednnaaDoor

