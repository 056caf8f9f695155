/-
  Linear forms as lists; Validate of the program's side.
-/
import Derived.Test.YtpclbgaaoednnaaDoorNm3
namespace Go.Proofs.YtpclbgaaoednnaaDoor
set_option linter.unusedSimpArgs false
open Go.ChangeShapes Go.WideShapes Go.ChangeAt Go.RowKit
set_option linter.unusedVariables false

abbrev Mono := ByteArray × Int
abbrev m0 : Mono := (⟨#[]⟩, 0)
def monoF (l : List Mono) (i j : Nat) : Value := match j with
  | 0 => .string (l.getD i m0).1
  | _ => .int .i64 (l.getD i m0).2
def MonosAt (w : World) (v : Value) (l : List Mono) : Prop := SlAt w v l.length 2 (monoF l)
def prevOk (p : Option (List UInt8)) (s : List UInt8) : Bool := match p with
  | none => true
  | some q => Op.bytesLess q s
def okFrom : Option (List UInt8) → List Mono → Bool
  | _, [] => true
  | p, (s, b) :: r => nameB s.toList && decide (b ≠ 0) && prevOk p s.toList && okFrom (some s.toList) r
def okL (l : List Mono) : Bool := okFrom none l
def prevAt (l : List Mono) (k : Nat) : Option (List UInt8) := match k with
  | 0 => none
  | j + 1 => some (l.getD j m0).1.toList
def errOf (b : Bool) : Int := if b then 0 else 1

theorem size_alloc (x : World) (o : Obj) : (x.alloc o).heap.size = x.heap.size + 1 := by simp

theorem mono_at {w : World} {l : List Mono} {bl off k : Nat} (n : Nat) (g3 : ∀ i j, i < n → j < 2 → w.cell? ⟨bl, off + i * 2 + j, none⟩ = some (monoF l i j)) (hk : k < n) {s : ByteArray} {b : Int} (h : l.getD k m0 = (s, b)) :
    w.cell? ⟨bl, off + k * 2, none⟩ = some (.string s) ∧ w.cell? ⟨bl, off + k * 2 + 1, none⟩ = some (.int .i64 b) := by
  have a0 := g3 k 0 hk (by omega)
  have a1 := g3 k 1 hk (by omega)
  simp only [monoF, h, Nat.add_zero] at a0 a1
  exact ⟨a0, a1⟩
theorem drop_mono {l : List Mono} {k : Nat} (hk : k < l.length) {m : Mono} (h : l.getD k m0 = m) : l.drop k = m :: l.drop (k + 1) := by
  rw [List.drop_eq_getElem_cons hk, ← h, List.getD_eq_getElem?_getD, List.getElem?_eq_getElem hk]; rfl

set_option maxHeartbeats 4000000 in
theorem lin_Validate (K : Int) (v : Value) (l : List Mono) (w : World) (hv : MonosAt w v l) :
    Calls Tryd.prog 6 #[.agg #[.int .i64 K, v]] w fun e w' => e = .returned (.int .i64 (errOf (okL l))) ∧ Up w w' := by
  obtain ⟨⟨a, cap, rfl, h0, hc⟩, hmax⟩ := hv
  obtain ⟨r, hr⟩ : ∃ r, okL l = r := ⟨_, rfl⟩
  rw [hr]
  obtain ⟨n, hn⟩ : ∃ n, l.length = n := ⟨_, rfl⟩
  rw [hn] at h0 hc hmax ⊢
  have HN := Lib.hid hn
  have HR := Lib.hid hr
  have HC := Lib.hid hc
  have H0 := Lib.hid h0
  clear hr hn hc h0
  go_enter Tryd.func6, Tryd.ntmps6
  go_wp2
  obtain ⟨W1, hW1⟩ : ∃ W1, w.alloc (.cells #[.int .i64 K, .slice a n cap] 24) = W1 := ⟨_, rfl⟩
  rw [hW1]
  have HU1 : Hid (Up w W1) := Lib.hid (hW1 ▸ (Up.refl w).alloc _)
  obtain ⟨B, hB⟩ : ∃ B, w.heap.size = B := ⟨_, rfl⟩
  have hrow : W1.heap[B]? = some (.cells #[.int .i64 K, .slice a n cap] 24 (0, 0)) := by
    rw [← hW1, ← hB]; exact heap_alloc_new w _
  have hsz1 : W1.heap.size = B + 1 := by rw [← hW1, size_alloc, hB]
  have HROW := Lib.hid hrow
  clear hrow hW1
  rw [hB]
  have HB := Lib.hid hB
  clear hB
  go_loopw [8] (fun i wr => ∃ k : Nat, k ≤ n ∧ i = .int .i64 k ∧ Up W1 wr ∧ okFrom (prevAt l k) (l.drop k) = r) (fun i _ => n - (intOf i).toNat)
  case atStart => exact ⟨0, by omega, rfl, Up.refl _, by rw [List.drop_zero]; exact HR.out⟩
  case round =>
    rename_i wr
    obtain ⟨k, hk, rfl, hU, hP⟩ := hrel
    have HP := Lib.hid hP
    clear hP
    have hU2 := HU1.out.trans hU
    by_cases hlt : k < n
    · have hlt2 : (k : Int) < (n : Int) := by omega
      have hk0 : (0 : Int) ≤ (k : Int) := by omega
      obtain ⟨x, rfl⟩ : ∃ x, a = some x := by
        cases a with
        | none => exact absurd (H0.out rfl) (by omega)
        | some x => exact ⟨x, rfl⟩
      obtain ⟨g1, g2, g3⟩ := HC.out x rfl (by omega)
      obtain ⟨bl, off, sp⟩ := x
      have g1' : sp = none := g1
      subst g1'
      obtain ⟨s, b, hm⟩ : ∃ s b, l.getD k m0 = (s, b) := ⟨_, _, rfl⟩
      have g4 : ∀ i j, i < n → j < 2 → wr.cell? ⟨bl, off + i * 2 + j, none⟩ = some (monoF l i j) := fun i j hi hj => (hU2.cell _ _ g2).trans (g3 i j hi hj)
      obtain ⟨c0, c1⟩ := mono_at n g4 hlt hm
      have hs1 := hU.size
      have hs2 := hU2.size
      have d1 : wr.cell? ⟨B, 1, none⟩ = some (.slice (some ⟨bl, off, none⟩) n cap) := (hU.cell _ _ (by omega)).trans (cell_of_row _ _ _ _ _ _ HROW.out)
      have g2' : bl < w.heap.size := g2
      have q1 : bl < wr.heap.size := by omega
      have q2 : B < wr.heap.size := by omega
      have q3 : bl < wr.heap.size + 1 := by omega
      have q4 : B < wr.heap.size + 1 := by omega
      have q5 : wr.heap.size < wr.heap.size + 1 := by omega
      have hdrop := drop_mono (by rw [HN.out]; exact hlt) hm
      have HM := Lib.hid hm
      have G4 := Lib.hid g4
      clear g3 hm g4 g2 g2'
      have HP1 : Hid ((nameB s.toList && decide (b ≠ 0) && prevOk (prevAt l k) s.toList && okFrom (some s.toList) (l.drop (k + 1))) = r) := Lib.hid (by rw [← HP.out, hdrop]; rfl)
      clear hdrop
      obtain ⟨nb, hnb⟩ : ∃ q, nameB s.toList = q := ⟨_, rfl⟩
      rw [hnb] at HP1
      have HID : Hid (∀ w : World, Calls Tryd.prog 13 #[.string s] w fun e w' => e = .returned (.bool nb) ∧ Up w w') := Lib.hid fun w => by
        rw [← hnb]
        exact (lin_identifier s w).mono fun e w' ⟨h1, h2⟩ => ⟨h1, h2 ▸ Up.refl _⟩
      clear hnb HP
      cases nb
      · have HF : Hid (false = r) := Lib.hid (by rw [← HP1.out]; rfl)
        go_wp2_with fail
        refine wp_region_ext (by kernel_rfl) (by kernel_rfl) ?_
        repeat (go_big_quiet_step ((go_at_call 13; exact Calls.ext_of (HID.out _))))
        refine wpQuiet_nil ?_
        intro x hx
        go_wp2
        go_ret
        exact ⟨ret_int (by rw [← HF.out]; rfl), (hU2.alloc _).trans hx⟩
      by_cases hb : b = 0
      · subst hb
        have HF : Hid (false = r) := Lib.hid (by rw [← HP1.out]; rfl)
        go_wp2_with fail
        refine wp_region_ext (by kernel_rfl) (by kernel_rfl) ?_
        repeat (go_big_quiet_step ((go_at_call 13; exact Calls.ext_of (HID.out _))))
        refine wpQuiet_nil ?_
        intro x hx
        go_wp2
        go_ret
        exact ⟨ret_int (by rw [← HF.out]; rfl), (hU2.alloc _).trans hx⟩
      have hb2 : (b == 0) = false := by simpa using hb
      have HP2 : Hid ((prevOk (prevAt l k) s.toList && okFrom (some s.toList) (l.drop (k + 1))) = r) := Lib.hid (by
        rw [← HP1.out]
        simp [hb])
      clear HP1
      cases k with
      | zero =>
        simp only [Nat.zero_mul, Nat.add_zero] at c0 c1
        have HG : Hid (okFrom (prevAt l (0 + 1)) (l.drop (0 + 1)) = r) := Lib.hid (by
          rw [← HP2.out]
          show okFrom (some (l.getD 0 m0).1.toList) _ = _
          rw [HM.out]; rfl)
        clear HP2
        go_wp2_with fail
        refine wp_region_ext (by kernel_rfl) (by kernel_rfl) ?_
        repeat (go_big_quiet_step ((go_at_call 13; exact Calls.ext_of (HID.out _))))
        refine wpQuiet_nil ?_
        intro x hx
        go_wp2
        go_roundw
        case rel => exact ⟨0 + 1, by omega, by go_num, (hU.alloc _).trans hx, HG.out⟩
        case measure => simp [intOf]; omega
      | succ j =>
        obtain ⟨s', b', hm'⟩ : ∃ s b, l.getD j m0 = (s, b) := ⟨_, _, rfl⟩
        obtain ⟨c2, c3⟩ := mono_at n G4.out (by omega : j < n) hm'
        obtain ⟨q, hq⟩ : ∃ q, Op.bytesLess s'.toList s.toList = q := ⟨_, rfl⟩
        have HP3 : Hid ((q && okFrom (some s.toList) (l.drop (j + 1 + 1))) = r) := Lib.hid (by
          rw [← HP2.out]
          show _ = (Op.bytesLess (l.getD j m0).1.toList s.toList && _)
          rw [hm', hq])
        have hkp : (0 : Int) < ((j + 1 : Nat) : Int) := by omega
        have hkm : ((j + 1 : Nat) : Int) - 1 = (j : Int) := by omega
        have hj0 : (0 : Int) ≤ (j : Int) := by omega
        have hjn : (j : Int) < (n : Int) := by omega
        clear HP2 hm'
        cases q
        · have HF : Hid (false = r) := Lib.hid (by rw [← HP3.out]; rfl)
          go_wp2_with fail
          refine wp_region_ext (by kernel_rfl) (by kernel_rfl) ?_
          repeat (go_big_quiet_step ((go_at_call 13; exact Calls.ext_of (HID.out _))))
          refine wpQuiet_nil ?_
          intro x hx
          go_wp2
          go_ret
          exact ⟨ret_int (by rw [← HF.out]; rfl), (hU2.alloc _).trans hx⟩
        · have HG : Hid (okFrom (prevAt l (j + 1 + 1)) (l.drop (j + 1 + 1)) = r) := Lib.hid (by
            rw [← HP3.out]
            show okFrom (some (l.getD (j + 1) m0).1.toList) _ = _
            rw [HM.out]; rfl)
          clear HP3
          go_wp2_with fail
          refine wp_region_ext (by kernel_rfl) (by kernel_rfl) ?_
          repeat (go_big_quiet_step ((go_at_call 13; exact Calls.ext_of (HID.out _))))
          refine wpQuiet_nil ?_
          intro x hx
          go_wp2
          go_roundw
          case rel => exact ⟨j + 1 + 1, by omega, by go_num, (hU.alloc _).trans hx, HG.out⟩
          case measure => simp [intOf]; omega
    · have hlt2 : (n : Int) ≤ (k : Int) := by omega
      obtain rfl : r = true := by rw [← HP.out, List.drop_eq_nil_of_le (by rw [HN.out]; omega)]; rfl
      go_wp2
      go_ret
      exact ⟨rfl, hU2⟩
end Go.Proofs.YtpclbgaaoednnaaDoor

