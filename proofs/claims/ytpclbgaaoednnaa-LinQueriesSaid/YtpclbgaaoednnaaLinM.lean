/-
  Add of the program's side: the closure that takes one name's coefficients.
-/
import Derived.Test.YtpclbgaaoednnaaLinSc
namespace Go.Proofs.Ytpclbgaaoednnaa
open Go.ChangeShapes Go.WideShapes Go.ChangeAt Go.RowKit
set_option linter.unusedVariables false

theorem lin_plus2 (a b : Int) (ha : In64 a) (hb : In64 b) (w : World) :
    Calls Try.prog 58 #[.int .i64 a, .int .i64 b] w fun e w' => e = .returned (.tuple #[.int .i64 (wrap64 (a + b)), .bool (fitB (a + b))]) ∧ w' = w := by
  obtain ⟨a0, a1⟩ := ha
  obtain ⟨b0, b1⟩ := hb
  have hw : wrap64 (a + b) = (if a + b < -9223372036854775808 then a + b + 18446744073709551616 else if 9223372036854775807 < a + b then a + b - 18446744073709551616 else a + b) := by
    unfold wrap64; split
    · omega
    · split <;> omega
  have hf : (decide (a < wrap64 (a + b)) == decide (0 < b)) = fitB (a + b) := by
    rw [hw]
    by_cases h1 : a + b < -9223372036854775808
    · rw [if_pos h1, decide_eq_true (by omega), decide_eq_false (by omega : ¬ 0 < b), fit_false (by omega)]; rfl
    · rw [if_neg h1]
      by_cases h2 : 9223372036854775807 < a + b
      · rw [if_pos h2, decide_eq_false (by omega), decide_eq_true (by omega : 0 < b), fit_false (by omega)]; rfl
      · rw [if_neg h2, fit_true (by omega)]
        by_cases h3 : 0 < b
        · rw [decide_eq_true (by omega), decide_eq_true h3]; rfl
        · rw [decide_eq_false (by omega), decide_eq_false h3]; rfl
  obtain ⟨f, hff⟩ : ∃ f, fitB (a + b) = f := ⟨_, rfl⟩
  rw [hff] at hf ⊢
  have HF := Lib.hid hf
  clear hw hf hff
  go_enter Try.func58, Try.ntmps58
  go_wp2
  go_ret2
  refine ⟨ret_ib rfl ?_, rfl⟩
  rw [← HF.out]

def stepA (acc : List Mono × Bool) (s : ByteArray) (x y : Int) : List Mono × Bool := (if wrap64 (x + y) = 0 then acc.1 else acc.1 ++ [(s, wrap64 (x + y))], acc.2 && fitB (x + y))

/-- What turns nothing below h but blocks b and c. -/
structure UpTwo (h b c : Nat) (w w' : World) : Prop where
  os : w'.os = w.os
  tape : w'.tape = w.tape
  output : w'.output = w.output
  size : w.heap.size ≤ w'.heap.size
  block : ∀ k, k < h → k ≠ b → k ≠ c → w'.heap[k]? = w.heap[k]?
theorem UpTwo.refl (h b c : Nat) (w : World) : UpTwo h b c w w := ⟨rfl, rfl, rfl, Nat.le_refl _, fun _ _ _ _ => rfl⟩
theorem UpTwo.trans {h b c : Nat} {x y z : World} (p : UpTwo h b c x y) (q : UpTwo h b c y z) : UpTwo h b c x z :=
  ⟨q.os.trans p.os, q.tape.trans p.tape, q.output.trans p.output, Nat.le_trans p.size q.size, fun k hk hb hc => (q.block k hk hb hc).trans (p.block k hk hb hc)⟩
theorem UpRow.two {h b c : Nat} {w w' : World} (u : UpRow h b w w') : UpTwo h b c w w' := ⟨u.os, u.tape, u.output, u.size, fun k hk hb _ => u.block k hk hb⟩
theorem UpTwo.setC {h b c : Nat} {w w' : World} (u : UpTwo h b c w w') (o : Nat) (v : Value) : UpTwo h b c w (w'.setCell ⟨c, o, none⟩ v) :=
  ⟨u.os, u.tape, u.output, by rw [set_size]; exact u.size, fun k hk hb hc => (Below.heap_setCell _ _ _ _ hc).trans (u.block k hk hb hc)⟩
theorem Up.two {w w' : World} (u : Up w w') {h b c : Nat} (hh : h ≤ w.heap.size) : UpTwo h b c w w' := ⟨Below.os u, Below.tape u, Below.output u, u.size, fun k hk _ _ => Below.block u k (by omega)⟩
theorem UpTwo.up {h b c : Nat} {w w1 w2 : World} (u : Up w w1) (hb : w.heap.size ≤ b) (hc : w.heap.size ≤ c) (hh : w.heap.size ≤ h) (k : UpTwo h b c w1 w2) : Up w w2 :=
  ⟨k.os.trans (Below.os u), k.tape.trans (Below.tape u), k.output.trans (Below.output u), Nat.le_trans (Below.size u) k.size, fun i hi => (k.block i (by omega) (by omega) (by omega)).trans (Below.block u i hi)⟩
theorem UpTwo.cell {h b c : Nat} {w w' : World} (u : UpTwo h b c w w') (k o : Nat) (hk : k < h) (hb : k ≠ b) (hc : k ≠ c) : w'.cell? ⟨k, o, none⟩ = w.cell? ⟨k, o, none⟩ :=
  World.cell?_of_block (w := w) (u.block k hk hb hc)

/-- The sum so far: the form in block O (its row from h on), whether all fits in block F. -/
def AddAt (w : World) (h O F : Nat) (K : Int) (r : List Mono × Bool) : Prop :=
  (∃ n a cap, OutAt w h O K r.1 n a cap) ∧ w.heap[F]? = some (.cells #[.bool r.2] 4 (0, 0)) ∧ F < h ∧ F ≠ O

theorem OutAt.setF {w : World} {h O n F : Nat} {K : Int} {l : List Mono} {a : Option Addr} {cap : Nat} (x : OutAt w h O K l n a cap) (hF : F < h) (hne : F ≠ O) (v : Value) : OutAt (w.setCell ⟨F, 0, none⟩ v) h O K l n a cap := by
  obtain ⟨h1, h2, h3, h4, h5⟩ := x
  exact ⟨h1, (Below.heap_setCell _ _ _ _ (Ne.symm hne)).trans h2, ownsRow_setCell_below h3 hF v, h4, by rw [set_size]; exact h5⟩
theorem AddAt.up {w w' : World} {h O F : Nat} {K : Int} {r : List Mono × Bool} (x : AddAt w h O F K r) (u : Up w w') : AddAt w' h O F K r := by
  obtain ⟨⟨n, a, cap, ho⟩, h2, h3, h4⟩ := x
  exact ⟨⟨n, a, cap, ho.up u⟩, (u.heap F (by have := ho.2.2.2.2; omega)).trans h2, h3, h4⟩

set_option maxHeartbeats 4000000 in
set_option maxRecDepth 100000 in
theorem lin_Add1 (s : ByteArray) (x y : Int) (hx : In64 x) (hy : In64 y) (w : World) (h O F : Nat) (K : Int) (r : List Mono × Bool) (hp : AddAt w h O F K r) (hlen : r.1.length ≤ 5000) :
    Calls Try.prog 60 #[.string s, .int .i64 x, .int .i64 y, .pointer (some ⟨F, 0, none⟩), .pointer (some ⟨O, 0, none⟩)] w fun e w' => e = .returned (.tuple #[]) ∧ AddAt w' h O F K (stepA r s x y) ∧ UpTwo h O F w w' := by
  obtain ⟨i0, hi0, hz0, hz1, hz2⟩ := info_parts mono_info
  obtain ⟨l, f⟩ := r
  obtain ⟨⟨n, a, cap, hO⟩, hF, hFh, hFO⟩ := hp
  dsimp only at hO hF hlen
  have hOl := hO.2.2.2.1
  have hOs := hO.2.2.2.2
  have hnl : n = l.length := hO.1
  have hnI : (n : Int) ≤ 5000 := by omega
  clear hnl
  obtain ⟨c, hc⟩ : ∃ c, wrap64 (x + y) = c := ⟨_, rfl⟩
  obtain ⟨g, hg⟩ : ∃ g, fitB (x + y) = g := ⟨_, rfl⟩
  have HPL : Hid (∀ w, Calls Try.prog 58 #[.int .i64 x, .int .i64 y] w fun e w' => e = .returned (.tuple #[.int .i64 c, .bool g]) ∧ w' = w) := Lib.hid fun w => by
    have := lin_plus2 x y hx hy w
    rw [hc, hg] at this; exact this
  obtain ⟨f', hf'⟩ : ∃ f', (f && g) = f' := ⟨_, rfl⟩
  have HST : Hid (stepA (l, f) s x y = (if c = 0 then l else l ++ [(s, c)], f')) := Lib.hid (by unfold stepA; rw [hc, hg, hf'])
  have HO := Lib.hid hO
  have HFF := Lib.hid hF
  have z0 : w.cell? ⟨F, 0, none⟩ = some (.bool f) := cell_of_row _ _ _ _ _ _ hF
  have zf : ∀ o, w.frozen? ⟨F, o, none⟩ = false := fun o => frozen_of_row _ _ o _ _ hF
  have hOF := hO.setF hFh hFO (.bool f')
  have HOF := Lib.hid hOF
  have HKEY := Lib.hid (hOF.key s c)
  obtain ⟨y0, y1, yf, yl⟩ := hOF.cells
  have hFw : F < w.heap.size := by omega
  have hF2 : ∀ w', UpTwo h O F (w.setCell ⟨F, 0, none⟩ (.bool f')) w' → UpTwo h O F w w' := fun w' u => ((UpTwo.refl h O F w).setC 0 _).trans u
  have hF3 : ∀ w', UpRow h O (w.setCell ⟨F, 0, none⟩ (.bool f')) w' → w'.heap[F]? = some (.cells #[.bool f'] 4 (0, 0)) := fun w' u => by
    refine (u.block F hFh hFO).trans ?_
    simp [World.setCell, Array.getElem?_modify, hF]
  have HF2 := Lib.hid hF2
  have HF3 := Lib.hid hF3
  clear hO hF hc hg hOF hF2 hF3
  have hcc : c = 0 ∨ c ≠ 0 := by omega
  have hs : (w.setCell ⟨F, 0, none⟩ (.bool f')).heap.size = w.heap.size := set_size _ _ _
  have HSL := Lib.hid (mono_sl (w.setCell ⟨F, 0, none⟩ (.bool f')) s c)
  rw [hs] at HSL
  clear hs
  cases f <;> cases g <;> cases f' <;> first | (exact absurd hf' (by decide)) | skip
  all_goals
    rcases hcc with rfl | hc0
    · go_enter Try.func60, Try.ntmps60
      go_wp2_with fail
      refine (HPL.out _).mono ?_
      rintro e x2 ⟨rfl, hx2⟩
      replace hx2 := hx2.symm
      subst hx2
      go_wp2
      go_end0
      refine ⟨rfl, ?_, HF2.out _ (UpTwo.refl _ _ _ _)⟩
      have h9 := HST.out
      simp only [if_true] at h9
      rw [h9]
      exact ⟨⟨n, a, cap, HOF.out⟩, HF3.out _ (UpRow.refl _ _ _), hFh, hFO⟩
    · have hc1 : (c == 0) = false := by simpa using hc0
      go_enter Try.func60, Try.ntmps60
      go_wp2_with fail
      refine (HPL.out _).mono ?_
      rintro e x2 ⟨rfl, hx2⟩
      replace hx2 := hx2.symm
      subst hx2
      go_wp2_with (at_builtin; refine wpList_append_sl _ rfl _ _ 23 rfl h 59 i0 _ 2 24 Try.underlying23 hi0 hz0 hz1 hz2 rfl (by decide) (.slice a n cap) n _ rfl (HOF.out.2.2.1.alloc _) (.slice (some ⟨w.heap.size, 0, none⟩) 1 1) 1 _ rfl HSL.out (mono_one s c) (by unfold maxLen; omega) (by omega) (by have := HOF.out.2.2.2.2; rw [size_alloc]; omega) ?_; intro v1 w1 hown1 hg1 hat1 hnil1; obtain ⟨vb, vd, rfl⟩ := own_slice hown1; obtain ⟨d2, d3, HD2, HD3, HD4⟩ := HKEY.out w1 hg1; have HO1 := Lib.hid hown1; clear hown1 hg1 hat1 hnil1)
      obtain ⟨hf1, hf2⟩ := HOF.out.done s c HD2.out HD3.out HD4.out vb vd HO1.out
      go_end0
      refine ⟨rfl, ?_, HF2.out _ hf2.two⟩
      have h9 := HST.out
      rw [if_neg hc0] at h9
      rw [h9]
      exact ⟨⟨n + 1, vb, vd, hf1⟩, HF3.out _ hf2, hFh, hFO⟩
end Go.Proofs.Ytpclbgaaoednnaa
